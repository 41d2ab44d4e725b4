-- Written by a program of mine (inj.py: the kit's printer, some functions told by hand).
import Derived.Test.YtfeddgeihpfjfabJFecSaysx0
import Derived.Test.YtfeddgeihpfjfabJFecSaysx1
namespace Go.Proofs.Ytfeddgeihpfjfab.JFecSays
open Go.RowKit Go.Proofs.YtfeddgeihpfjfabW.PrintWords Go.Proofs.YtfeddgeihpfjfabW.PrintLast Go.Proofs.YtfeddgeihpfjfabW.PrintMore
attribute [local go_sem] max2_int min2_int max_two min_two max_three min_three max_four min_four   -- for this text's walks alone
set_option linter.unusedVariables false
set_option linter.unusedSimpArgs false

/-! ### patchbayref1_IsBits: function 27 -/
def patchbayref1_IsBits.f (a0 : ByteArray) : Option Bool := some (isBitsB a0)
set_option maxRecDepth 100000 in
set_option maxHeartbeats 1000000 in
theorem patchbayref1_IsBits.calls (a0 : ByteArray) (r : Bool) (w : World) (h : patchbayref1_IsBits.f a0 = some r) :
    Calls Try.prog 27 #[.string a0] w fun e w' => e = .returned (.bool r) ∧ Below w.heap.size w w' := by
  have HR : Hid (r = (a0.data.toList.drop 0).all isBitU) := by
    show r = _
    unfold patchbayref1_IsBits.f at h
    exact (Option.some.inj h).symm
  clear h
  have HB : Hid (∀ pos, Below w.heap.size w (w.iter a0 pos)) := fun pos => (Below.refl _ _).alloc (Nat.le_refl _) _
  go_enter Try.func27, Try.ntmps27
  go_wp2
  go_loopw [] (fun w' => ∃ pos : Nat, w' = w.iter a0 pos ∧ Hid (r = (a0.data.toList.drop pos).all isBitU)) (fun w' => a0.size - w'.iterPos w.heap.size)
  case atStart => exact ⟨0, rfl, HR.out⟩
  case round =>
    clear HR
    obtain ⟨pos, rfl, HV⟩ := hrel
    by_cases hp : pos < a0.size
    · have HS : Hid _ := HV.out.trans (bits_step a0 pos hp)
      clear HV
      by_cases ha : (a0[pos]'hp).toNat < 128
      · have hnx : ∀ ty, (Instr.next (.pointer (some ⟨w.heap.size, 0, none⟩)) true ty).run Try.prog (w.iter a0 pos) = _ := fun ty => run_next_ascii w a0 pos ty hp ha
        have HU : Hid (isBitU a0[pos] = (decide ((a0[pos]'hp).toNat = 48) || decide ((a0[pos]'hp).toNat = 49))) := by
          show isBitU a0[pos] = _
          unfold isBitU
          rw [Bool.eq_iff_iff]; simp [← UInt8.toNat_inj]
        generalize isBitU a0[pos] = u at HS HU
        generalize (a0[pos]'hp).toNat = c at hnx HU ha
        by_cases c0 : c = 48
        · subst c0
          have HV2 : Hid (r = (a0.data.toList.drop (pos + 1)).all isBitU) := by
                show r = _
                rw [HS.out, HU.out]; simp
          clear HS HU
          go_wp2
          go_roundw
          case rel => exact ⟨pos + 1, rfl, HV2.out⟩
          case measure => simp; omega
        · by_cases c1 : c = 49
          · subst c1
            have HV2 : Hid (r = (a0.data.toList.drop (pos + 1)).all isBitU) := by
                show r = _
                rw [HS.out, HU.out]; simp
            clear HS HU
            go_wp2
            go_roundw
            case rel => exact ⟨pos + 1, rfl, HV2.out⟩
            case measure => simp; omega
          · have hr : r = false := by rw [HS.out, HU.out]; simp [c0, c1]
            subst hr
            have q0 : (((c : Nat) : Int) != 48) = true := by simp; omega
            have q1 : (((c : Nat) : Int) != 49) = true := by simp; omega
            clear HS HU c0 c1
            go_wp2
            go_ret
            exact ⟨rfl, HB.out _⟩
      · have hd := decode_high a0 pos hp (by omega)
        have hnx : ∀ ty, (Instr.next (.pointer (some ⟨w.heap.size, 0, none⟩)) true ty).run Try.prog (w.iter a0 pos) = _ := fun ty => run_next_any w a0 pos ty hp
        have hr : r = false := by
          rw [HS.out]
          have : isBitU a0[pos] = false := by
            unfold isBitU
            rw [Bool.eq_false_iff]; simp [← UInt8.toNat_inj]; omega
          rw [this]; rfl
        subst hr
        clear HS
        generalize Utf8.decode a0 pos = dd at hnx hd
        have q0 : (((dd.1 : Nat) : Int) != 48) = true := by simp; omega
        have q1 : (((dd.1 : Nat) : Int) != 49) = true := by simp; omega
        clear ha hd
        go_wp2
        go_ret
        exact ⟨rfl, HB.out _⟩
    · have hnx : ∀ ty, (Instr.next (.pointer (some ⟨w.heap.size, 0, none⟩)) true ty).run Try.prog (w.iter a0 pos) = _ := fun ty => run_next_end w a0 pos ty hp
      have hr : r = true := by rw [HV.out]; exact bits_end a0 pos hp
      subst hr
      clear HV
      go_wp2
      go_ret
      exact ⟨rfl, HB.out _⟩

/-! ### patchbayref1_Nearest: function 28 -/
mutual
def patchbayref1_Nearest.l0 : Nat → ByteArray → Int → Option (Int × Int)
  | 0, _, _ => none
  | k + 1, x0, x9 => if x9 < 16 then ((patchbayref1_Hamming.f k x9).bind fun t112 => (patchbayref1_Nearest.l1 k x0 x9 t112 0 0 x9 0)) else (some ((-1), 0))
def patchbayref1_Nearest.l1 : Nat → ByteArray → Int → ByteArray → Int → Int → Int → Int → Option (Int × Int)
  | 0, _, _, _, _, _, _, _ => none
  | k + 1, x0, x4, x5, x6, x7, x9, x14 => if x14 < 7 then (if 0 ≤ x14 then (if x14 < (x5.size : Int) then (if x14 < (x0.size : Int) then (if (bt x5 x14) = (bt x0 x14) then (patchbayref1_Nearest.l1 k x0 x4 x5 x6 x7 x9 (wrap64 (x14 + 1))) else (patchbayref1_Nearest.l1 k x0 x4 x5 (wrap64 (x6 + 1)) (wrap64 (x14 + 1)) x9 (wrap64 (x14 + 1)))) else (none)) else (none)) else (none)) else (if x6 < 2 then (some (x4, x7)) else (patchbayref1_Nearest.l0 k x0 (wrap64 (x9 + 1))))
end
def patchbayref1_Nearest.f (k : Nat) (a0 : ByteArray) : Option (Int × Int) := patchbayref1_Nearest.l0 k a0 0
theorem patchbayref1_Nearest.mono_l : ∀ k, (∀ y0 y1, LeO (patchbayref1_Nearest.l0 k y0 y1) (patchbayref1_Nearest.l0 (k + 1) y0 y1)) ∧ (∀ y0 y1 y2 y3 y4 y5 y6, LeO (patchbayref1_Nearest.l1 k y0 y1 y2 y3 y4 y5 y6) (patchbayref1_Nearest.l1 (k + 1) y0 y1 y2 y3 y4 y5 y6))
  | 0 => ⟨fun _ _ r h => by simp [patchbayref1_Nearest.l0] at h, fun _ _ _ _ _ _ _ r h => by simp [patchbayref1_Nearest.l1] at h⟩
  | k + 1 => by
    obtain ⟨ih0, ih1⟩ := patchbayref1_Nearest.mono_l k
    refine ⟨?_, ?_⟩
    · intro y0 y1
      unfold patchbayref1_Nearest.l0
      repeat' first
      | (with_reducible exact ih0 _ _)
      | (with_reducible exact ih1 _ _ _ _ _ _ _)
      | (with_reducible exact patchbayref1_Hamming.mono _ _)
      | (with_reducible exact LeO.refl _)
      | (with_reducible exact LeO.none _)
      | (with_reducible refine LeO.ite ?_ ?_)
      | (with_reducible refine LeO.bind ?_ (fun _ => ?_))
      | exact ih0 _ _
      | exact ih1 _ _ _ _ _ _ _
      | exact patchbayref1_Hamming.mono _ _
      | exact LeO.none _
      | refine LeO.ite ?_ ?_
      | refine LeO.bind ?_ (fun _ => ?_)
    · intro y0 y1 y2 y3 y4 y5 y6
      unfold patchbayref1_Nearest.l1
      repeat' first
      | (with_reducible exact ih0 _ _)
      | (with_reducible exact ih1 _ _ _ _ _ _ _)
      | (with_reducible exact patchbayref1_Hamming.mono _ _)
      | (with_reducible exact LeO.refl _)
      | (with_reducible exact LeO.none _)
      | (with_reducible refine LeO.ite ?_ ?_)
      | (with_reducible refine LeO.bind ?_ (fun _ => ?_))
      | exact ih0 _ _
      | exact ih1 _ _ _ _ _ _ _
      | exact patchbayref1_Hamming.mono _ _
      | exact LeO.none _
      | refine LeO.ite ?_ ?_
      | refine LeO.bind ?_ (fun _ => ?_)
theorem patchbayref1_Nearest.mono : ∀ a0 k, LeO (patchbayref1_Nearest.f k a0) (patchbayref1_Nearest.f (k + 1) a0) := by
  intro a0 k
  obtain ⟨ih0, ih1⟩ := patchbayref1_Nearest.mono_l k
  unfold patchbayref1_Nearest.f
  repeat' first
      | (with_reducible exact ih0 _ _)
      | (with_reducible exact ih1 _ _ _ _ _ _ _)
      | (with_reducible exact patchbayref1_Hamming.mono _ _)
      | (with_reducible exact LeO.refl _)
      | (with_reducible exact LeO.none _)
      | (with_reducible refine LeO.ite ?_ ?_)
      | (with_reducible refine LeO.bind ?_ (fun _ => ?_))
      | exact ih0 _ _
      | exact ih1 _ _ _ _ _ _ _
      | exact patchbayref1_Hamming.mono _ _
      | exact LeO.none _
      | refine LeO.ite ?_ ?_
      | refine LeO.bind ?_ (fun _ => ?_)
set_option maxHeartbeats 8000000 in
set_option maxRecDepth 100000 in
theorem patchbayref1_Nearest.calls (k : Nat) (a0 : ByteArray) (r1 : Int) (r2 : Int) (w : World) (h : patchbayref1_Nearest.f k a0 = some (r1, r2)) :
    Calls Try.prog 28 #[.string a0] w fun e w' => e = .returned (.tuple #[.int .i64 r1, .int .i64 r2]) ∧ Below w.heap.size w w' := by
  have HB := Aside0.mk (Below.refl w.heap.size w)
  have H : (patchbayref1_Nearest.l0 k a0 0) = some (r1, r2) := h
  clear h
  have H' := Aside0.mk H
  clear H
  go_enter Try.func28, Try.ntmps28
  go_wp2
  repeat (go_quiet (fail); try go_wp2)
  go_loopg [9] k (fun kq v9 w' => ∃ (x9_1 : Int), v9 = .int .i64 x9_1 ∧ Aside0 (patchbayref1_Nearest.l0 kq a0 x9_1 = some (r1, r2)) ∧ Aside0 (kq ≤ k) ∧ Aside0 (Below w.heap.size w w'))
  case atStart => exact ⟨(0), (by first | rfl | (simp; done) | (simp [*]; done)), H', ⟨Nat.le_refl _⟩, ⟨by repeat (first | (with_reducible first | exact HB.out | apply below_alloc | apply pw_below_drewN | apply below_drew1) | exact HB.out)⟩⟩
  case round =>
    clear H'
    obtain ⟨x9_1, rfl, HA, HK1, HB⟩ := hrel
    cases gk with
    | zero => exact absurd HA.out (by simp [patchbayref1_Nearest.l0])
    | succ k1 =>
      have H := HA.out
      clear HA
      simp only [patchbayref1_Nearest.l0] at H
      by_cases c2 : x9_1 < 16
      · rw [if_pos c2] at H
        have c2b0 : decide (x9_1 < 16) = true := decide_eq_true c2
        clear c2
        replace H := Option.bind_eq_some_iff.mp H
        obtain ⟨t112, A30, H⟩ := H
        replace H : (patchbayref1_Nearest.l1 k1 a0 x9_1 t112 0 0 x9_1 0) = some (r1, r2) := H
        have A3 := Aside0.mk A30
        clear A30
        have H' := Aside0.mk H
        clear H
        go_wp2_with (first | (go_at_call 25; (with_reducible refine (patchbayref1_Hamming.calls k1 x9_1 t112 _ A3.out).mono ?_); rintro e w4 ⟨rfl, hb⟩; have n0_ := Aside0.mk (below_step (by repeat (first | (with_reducible first | exact HB.out | apply below_alloc | apply pw_below_drewN | apply below_drew1) | exact HB.out)) hb); clear HB; have HB := n0_; clear n0_; (try clear hb); (try clear hb2); (try clear hk); (try clear hi)))
        repeat (go_quiet (first | (go_at_call 25; (with_reducible refine (patchbayref1_Hamming.calls k1 x9_1 t112 _ A3.out).mono ?_); rintro e w4 ⟨rfl, hb⟩; have n0_ := Aside0.mk (below_step (by repeat (first | (with_reducible first | exact HB.out | apply below_alloc | apply pw_below_drewN | apply below_drew1) | exact HB.out)) hb); clear HB; have HB := n0_; clear n0_; (try clear hb); (try clear hb2); (try clear hk); (try clear hi))); try go_wp2_with (first | (go_at_call 25; (with_reducible refine (patchbayref1_Hamming.calls k1 x9_1 t112 _ A3.out).mono ?_); rintro e w4 ⟨rfl, hb⟩; have n0_ := Aside0.mk (below_step (by repeat (first | (with_reducible first | exact HB.out | apply below_alloc | apply pw_below_drewN | apply below_drew1) | exact HB.out)) hb); clear HB; have HB := n0_; clear n0_; (try clear hb); (try clear hb2); (try clear hk); (try clear hi))))
        go_loopg [6, 7, 14] k1 (fun kq v6 v7 v14 w' => ∃ (x6_2 : Int) (x7_2 : Int) (x14_2 : Int), v6 = .int .i64 x6_2 ∧ v7 = .int .i64 x7_2 ∧ v14 = .int .i64 x14_2 ∧ Aside0 (patchbayref1_Nearest.l1 kq a0 x9_1 t112 x6_2 x7_2 x9_1 x14_2 = some (r1, r2)) ∧ Aside0 (kq ≤ k1) ∧ Aside0 (Below w.heap.size w w'))
        case atStart => exact ⟨(0), (0), (0), (by first | rfl | (simp; done) | (simp [*]; done)), (by first | rfl | (simp; done) | (simp [*]; done)), (by first | rfl | (simp; done) | (simp [*]; done)), H', ⟨Nat.le_refl _⟩, ⟨by repeat (first | (with_reducible first | exact HB.out | apply below_alloc | apply pw_below_drewN | apply below_drew1) | exact HB.out)⟩⟩
        case round =>
          clear H'
          try clear c2
          try clear c2b0
          try clear p2
          obtain ⟨x6_2, x7_2, x14_2, rfl, rfl, rfl, HA, HK2, HB⟩ := hrel
          cases gk with
          | zero => exact absurd HA.out (by simp [patchbayref1_Nearest.l1])
          | succ k2 =>
            have H := HA.out
            clear HA
            simp only [patchbayref1_Nearest.l1] at H
            by_cases c5 : x14_2 < 7
            · rw [if_pos c5] at H
              have c5b0 : decide (x14_2 < 7) = true := decide_eq_true c5
              clear c5
              by_cases c6 : 0 ≤ x14_2
              · rw [if_pos c6] at H
                have c6b0 : decide (0 ≤ x14_2) = true := decide_eq_true c6
                clear c6
                by_cases c7 : x14_2 < (t112.size : Int)
                · rw [if_pos c7] at H
                  have c7b0 : decide (x14_2 < (t112.size : Int)) = true := decide_eq_true c7
                  clear c7
                  by_cases c9 : x14_2 < (a0.size : Int)
                  · rw [if_pos c9] at H
                    have c9b0 : decide (x14_2 < (a0.size : Int)) = true := decide_eq_true c9
                    clear c9
                    by_cases c11 : (bt t112 x14_2) = (bt a0 x14_2)
                    · rw [if_pos c11] at H
                      have c11b0 : ((bt t112 x14_2) == (bt a0 x14_2)) = true := beq_iff_eq.mpr c11
                      have c11b1 : ((bt t112 x14_2) != (bt a0 x14_2)) = false := bne_eq_false_iff_eq.mpr c11
                      clear c11
                      have H' := Aside0.mk H
                      clear H
                      have p8 : 0 ≤ (x14_2 : Int) := of_decide_eq_true (by first | (with_reducible assumption) | assumption)
                      have q8 : x14_2 < (t112.size : Int) := of_decide_eq_true (by first | (with_reducible assumption) | assumption)
                      have hx8 := bt_at t112 x14_2
                      replace p8 := eq_true p8
                      replace q8 := eq_true q8
                      have p10 : 0 ≤ (x14_2 : Int) := of_decide_eq_true (by first | (with_reducible assumption) | assumption)
                      have q10 : x14_2 < (a0.size : Int) := of_decide_eq_true (by first | (with_reducible assumption) | assumption)
                      have hx10 := bt_at a0 x14_2
                      replace p10 := eq_true p10
                      replace q10 := eq_true q10
                      go_wp2
                      repeat (go_quiet (fail); try go_wp2)
                      go_roundg k2
                      case measure => have := HK1.out; have := HK2.out; omega
                      case rel => exact ⟨(x6_2), (x7_2), (wrap64 (x14_2 + 1)), (by first | rfl | (simp; done) | (simp [*]; done)), (by first | rfl | (simp; done) | (simp [*]; done)), (by first | rfl | (simp; done) | (simp [*]; done)), H', ⟨by have := HK1.out; have := HK2.out; omega⟩, ⟨by repeat (first | (with_reducible first | exact HB.out | apply below_alloc | apply pw_below_drewN | apply below_drew1) | exact HB.out)⟩⟩
                    · rw [if_neg c11] at H
                      have c11b0 : ((bt t112 x14_2) == (bt a0 x14_2)) = false := beq_eq_false_iff_ne.mpr c11
                      have c11b1 : ((bt t112 x14_2) != (bt a0 x14_2)) = true := bne_iff_ne.mpr c11
                      have H' := Aside0.mk H
                      clear H
                      have p8 : 0 ≤ (x14_2 : Int) := of_decide_eq_true (by first | (with_reducible assumption) | assumption)
                      have q8 : x14_2 < (t112.size : Int) := of_decide_eq_true (by first | (with_reducible assumption) | assumption)
                      have hx8 := bt_at t112 x14_2
                      replace p8 := eq_true p8
                      replace q8 := eq_true q8
                      have p10 : 0 ≤ (x14_2 : Int) := of_decide_eq_true (by first | (with_reducible assumption) | assumption)
                      have q10 : x14_2 < (a0.size : Int) := of_decide_eq_true (by first | (with_reducible assumption) | assumption)
                      have hx10 := bt_at a0 x14_2
                      replace p10 := eq_true p10
                      replace q10 := eq_true q10
                      go_wp2
                      repeat (go_quiet (fail); try go_wp2)
                      go_roundg k2
                      case measure => have := HK1.out; have := HK2.out; omega
                      case rel => exact ⟨(wrap64 (x6_2 + 1)), (wrap64 (x14_2 + 1)), (wrap64 (x14_2 + 1)), (by first | rfl | (simp; done) | (simp [*]; done)), (by first | rfl | (simp; done) | (simp [*]; done)), (by first | rfl | (simp; done) | (simp [*]; done)), H', ⟨by have := HK1.out; have := HK2.out; omega⟩, ⟨by repeat (first | (with_reducible first | exact HB.out | apply below_alloc | apply pw_below_drewN | apply below_drew1) | exact HB.out)⟩⟩
                  · rw [if_neg c9] at H
                    exact absurd H (by simp)
                · rw [if_neg c7] at H
                  exact absurd H (by simp)
              · rw [if_neg c6] at H
                exact absurd H (by simp)
            · rw [if_neg c5] at H
              have c5b0 : decide (x14_2 < 7) = false := decide_eq_false c5
              clear c5
              by_cases c12 : x6_2 < 2
              · rw [if_pos c12] at H
                have c12b0 : decide (x6_2 < 2) = true := decide_eq_true c12
                clear c12
                simp only [Option.some.injEq, Prod.mk.injEq] at H
                obtain ⟨rfl, rfl⟩ := H
                go_wp2
                repeat (go_quiet (fail); try go_wp2)
                go_ret2
                exact ⟨by first | rfl | (simp [errW_none, errW_some] <;> rfl) | (simp [*, errW_none, errW_some] <;> rfl), by repeat (first | (with_reducible first | exact HB.out | apply below_alloc | apply pw_below_drewN | apply below_drew1) | exact HB.out)⟩
              · rw [if_neg c12] at H
                have c12b0 : decide (x6_2 < 2) = false := decide_eq_false c12
                clear c12
                have H' := Aside0.mk H
                clear H
                go_wp2
                repeat (go_quiet (fail); try go_wp2)
                go_roundg k2
                case measure => have := HK1.out; have := HK2.out; omega
                case rel => exact ⟨(wrap64 (x9_1 + 1)), (by first | rfl | (simp; done) | (simp [*]; done)), H', ⟨by have := HK1.out; have := HK2.out; omega⟩, ⟨by repeat (first | (with_reducible first | exact HB.out | apply below_alloc | apply pw_below_drewN | apply below_drew1) | exact HB.out)⟩⟩
      · rw [if_neg c2] at H
        have c2b0 : decide (x9_1 < 16) = false := decide_eq_false c2
        clear c2
        simp only [Option.some.injEq, Prod.mk.injEq] at H
        obtain ⟨rfl, rfl⟩ := H
        go_wp2
        repeat (go_quiet (fail); try go_wp2)
        go_ret2
        exact ⟨by first | rfl | (simp [errW_none, errW_some] <;> rfl) | (simp [*, errW_none, errW_some] <;> rfl), by repeat (first | (with_reducible first | exact HB.out | apply below_alloc | apply pw_below_drewN | apply below_drew1) | exact HB.out)⟩

/-! ### fec_Encode: function 29 -/
def fec_Encode.f (a0 : ByteArray) (a1 : Int) : Option (ByteArray × Int) := if (a0.size : Int) > 512 then some (⟨#[]⟩, 2) else if a1 < 1 then some (⟨#[]⟩, 1) else if a1 > 64 then some (⟨#[]⟩, 1) else some (strOfNums (encL a1.toNat (wordsOf a0.data.toList).length (wordsOf a0.data.toList)), 0)
set_option maxRecDepth 100000 in
set_option maxHeartbeats 1000000 in
theorem fec_Encode.calls (a0 : ByteArray) (a1 : Int) (r1 : ByteArray) (r2 : Int) (w : World) (h : fec_Encode.f a0 a1 = some (r1, r2)) :
    Calls Try.prog 29 #[.string a0, .int .i64 a1] w fun e w' => e = .returned (.tuple #[.string r1, .int .i64 r2]) ∧ Below w.heap.size w w' := by
  unfold fec_Encode.f at h
  by_cases c0 : (a0.size : Int) > 512
  · rw [if_pos c0] at h
    simp only [Option.some.injEq, Prod.mk.injEq] at h
    obtain ⟨rfl, rfl⟩ := h
    go_enter Try.func29, Try.ntmps29
    go_wp2_with fail
    go_ret2
    exact ⟨rfl, Below.refl _ _⟩
  rw [if_neg c0] at h
  have c0' : a0.size ≤ 512 := by omega
  clear c0
  by_cases c1 : a1 < 1
  · rw [if_pos c1] at h
    simp only [Option.some.injEq, Prod.mk.injEq] at h
    obtain ⟨rfl, rfl⟩ := h
    go_enter Try.func29, Try.ntmps29
    go_wp2_with fail
    go_ret2
    exact ⟨rfl, Below.refl _ _⟩
  rw [if_neg c1] at h
  by_cases c2 : a1 > 64
  · rw [if_pos c2] at h
    simp only [Option.some.injEq, Prod.mk.injEq] at h
    obtain ⟨rfl, rfl⟩ := h
    have c1' : 1 ≤ a1 := by omega
    clear c1
    go_enter Try.func29, Try.ntmps29
    go_wp2_with fail
    go_ret2
    exact ⟨rfl, Below.refl _ _⟩
  rw [if_neg c2] at h
  simp only [Option.some.injEq, Prod.mk.injEq] at h
  obtain ⟨h1, rfl⟩ := h
  obtain ⟨d, rfl⟩ := Int.eq_ofNat_of_zero_le (show 0 ≤ a1 by omega)
  rw [Int.toNat_natCast] at h1
  exact fecenc_any a0 d r1 w c0' (by omega) (by omega) h1.symm

end Go.Proofs.Ytfeddgeihpfjfab.JFecSays
