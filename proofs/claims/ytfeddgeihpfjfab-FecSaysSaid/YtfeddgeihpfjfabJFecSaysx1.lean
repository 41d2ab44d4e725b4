-- Written by a program of mine (inj.py: the kit's printer, some functions told by hand).
import Derived.Test.YtfeddgeihpfjfabJFecSaysx0
namespace Go.Proofs.Ytfeddgeihpfjfab.JFecSays
open Go.RowKit Go.Proofs.YtfeddgeihpfjfabW.PrintWords Go.Proofs.YtfeddgeihpfjfabW.PrintLast Go.Proofs.YtfeddgeihpfjfabW.PrintMore
attribute [local go_sem] max2_int min2_int max_two min_two max_three min_three max_four min_four   -- for this text's walks alone
set_option linter.unusedVariables false
set_option linter.unusedSimpArgs false

/-! ### fec_Word: function 24 -/
def fec_Word.f (a0 : Int) : Option (ByteArray × Int) := if a0 < 0 then some (⟨#[]⟩, 10) else if a0 > 15 then some (⟨#[]⟩, 10) else some (strOfNums (wordL a0), 0)
set_option maxRecDepth 100000 in
set_option maxHeartbeats 1000000 in
theorem fec_Word.calls (a0 : Int) (r1 : ByteArray) (r2 : Int) (w : World) (h : fec_Word.f a0 = some (r1, r2)) :
    Calls Try.prog 24 #[.int .i64 a0] w fun e w' => e = .returned (.tuple #[.string r1, .int .i64 r2]) ∧ Below w.heap.size w w' := by
  unfold fec_Word.f at h
  by_cases c0 : a0 < 0
  · rw [if_pos c0] at h
    injection h with h
    injection h with h1 h2
    subst h1; subst h2
    go_enter Try.func24, Try.ntmps24
    go_wp2
    go_ret2
    exact ⟨rfl, Below.refl _ _⟩
  by_cases c1 : a0 > 15
  · rw [if_neg c0, if_pos c1] at h
    injection h with h
    injection h with h1 h2
    subst h1; subst h2
    have c0' : 0 ≤ a0 := by omega
    clear c0
    go_enter Try.func24, Try.ntmps24
    go_wp2
    go_ret2
    exact ⟨rfl, Below.refl _ _⟩
  rw [if_neg c0, if_neg c1] at h
  injection h with h
  injection h with h1 h2
  subst h2
  have HE := Lib.hid h1
  have c0' : 0 ≤ a0 := by omega
  have c1' : a0 ≤ 15 := by omega
  have HL : Hid ((wordL a0).length = 7) := by
    show _ = _
    unfold wordL
    rw [vst_len, wst_len]
  clear c0 c1 h1
  go_enter Try.func24, Try.ntmps24
  go_wp2_with (go_at_call 66; ((with_reducible refine (fecword_any a0 _ c0' c1').mono ?_)); rintro e w1 ⟨rfl, hb1, hb2⟩; have HB1 := Lib.hid hb1; have HB2 := Lib.hid hb2; clear hb1 hb2; have hcv := run_convert_bytes_arg (P := Try.prog) w1 113 5 Try.underlying113 Try.underlying5 w.heap.size 0 7 7 (wordL a0) HL.out (fun i hi => by rw [Nat.zero_add]; exact HB1.out.cell i (by simp [encB, HL.out, hi, List.getD_eq_getElem?_getD])) 9 Try.underlying9)
  go_ret2
  exact ⟨by rw [HE.out]; rfl, HB2.out⟩

/-! ### patchbayref1_bin: function 67 -/
def patchbayref1_bin.f (a0 a1 : Int) : Option ByteArray := if 0 ≤ a0 ∧ a0 ≤ 9223372036854775807 ∧ 0 ≤ a1 ∧ a1 ≤ 64 then some (binS a1.toNat a0) else none
set_option maxRecDepth 100000 in
set_option maxHeartbeats 1000000 in
theorem patchbayref1_bin.walk (k : Nat) : ∀ (n : Int) (w : World), 0 ≤ n → n ≤ 9223372036854775807 → k ≤ 64 →
    Calls Try.prog 67 #[.int .i64 n, .int .i64 k] w fun e w' => e = .returned (.string (binS k n)) ∧ ∃ m, w' = w.drewN m := by
  induction k with
  | zero =>
    intro n w h0 h1 hk
    go_enter Try.func67, Try.ntmps67
    go_wp2_with fail
    go_ret
    exact ⟨rfl, 0, rfl⟩
  | succ k ih =>
    intro n w h0 h1 hk
    have HE : Hid (binS (k + 1) n = binS k (n / 2) ++ bitS n) := rfl
    have hz := binS_size k (n / 2)
    have IH : Hid (∀ m, Calls Try.prog 67 #[.int .i64 (n / 2), .int .i64 k] (w.drewN m) fun e w' => e = .returned (.string (binS k (n / 2))) ∧ ∃ m', w' = (w.drewN m).drewN m') := fun m => ih (n / 2) _ (by omega) (by omega) (by omega)
    clear ih
    have hk2 : k ≤ 63 := by omega
    have hb : Hid (bitS n = if n % 2 = 0 then ⟨#[48]⟩ else ⟨#[49]⟩) := rfl
    generalize bitS n = bb at HE hb
    generalize binS (k + 1) n = v at HE ⊢
    have HZ := Lib.hid hz
    clear hz
    generalize binS k (n / 2) = s at HE IH HZ
    have hs : s.size ≤ 64 := by have := HZ.out; omega
    clear HZ
    have q : 0 < k + 1 := by omega
    by_cases c : n % 2 = 0
    · have hbb : bb = ⟨#[48]⟩ := by rw [hb.out, if_pos c]
      subst hbb
      clear hb
      go_enter Try.func67, Try.ntmps67
      have e1 : IntKind.i64.wrap (((k + 1 : Nat) : Int) - 1) = k := by rw [IntKind.wrap_i64]; omega
      have e2 : IntKind.i64.wrap (n.tdiv 2) = n / 2 := by rw [Int.tdiv_eq_ediv_of_nonneg h0, IntKind.wrap_i64]; omega
      have e3 : n.tmod 2 = 0 := by rw [Int.tmod_eq_emod_of_nonneg h0]; exact c
      clear c
      go_wp2_with fail
      go_quiet ((go_at_call 67; exact Calls.quiet_of (IH.out _)))
      go_wp2_with fail
      go_ret
      exact ⟨by rw [HE.out]; rfl, _, rfl⟩
    · have hbb : bb = ⟨#[49]⟩ := by rw [hb.out, if_neg c]
      subst hbb
      clear hb
      go_enter Try.func67, Try.ntmps67
      have e1 : IntKind.i64.wrap (((k + 1 : Nat) : Int) - 1) = k := by rw [IntKind.wrap_i64]; omega
      have e2 : IntKind.i64.wrap (n.tdiv 2) = n / 2 := by rw [Int.tdiv_eq_ediv_of_nonneg h0, IntKind.wrap_i64]; omega
      have e3 : n.tmod 2 = 1 := by rw [Int.tmod_eq_emod_of_nonneg h0]; omega
      clear c
      go_wp2_with fail
      go_quiet ((go_at_call 67; exact Calls.quiet_of (IH.out _)))
      go_wp2_with fail
      go_ret
      exact ⟨by rw [HE.out]; rfl, _, rfl⟩
theorem patchbayref1_bin.calls (a0 : Int) (a1 : Int) (r : ByteArray) (w : World) (h : patchbayref1_bin.f a0 a1 = some r) :
    Calls Try.prog 67 #[.int .i64 a0, .int .i64 a1] w fun e w' => e = .returned (.string r) ∧ Below w.heap.size w w' := by
  unfold patchbayref1_bin.f at h
  split at h
  · rename_i hc
    obtain ⟨h0, h64, h1, h2⟩ := hc
    obtain ⟨k, rfl⟩ := Int.eq_ofNat_of_zero_le h1
    rw [Int.toNat_natCast] at h
    obtain rfl := Option.some.inj h
    exact (patchbayref1_bin.walk k a0 w h0 h64 (by omega)).mono fun e w' ⟨he, hm⟩ => ⟨he, (Drawn0.mk hm).below⟩
  · cases h

/-! ### patchbayref1_Hamming: function 25 -/
mutual
def patchbayref1_Hamming.l0 : Nat → Int → Int → Option (ByteArray)
  | 0, _, _ => none
  | k + 1, x0, x7 => if x7 < 8 then ((patchbayref1_bin.f (wrap64 (Int.tdiv x7 4)) 1).bind fun t101 => ((patchbayref1_bin.f (Int.tmod (wrap64 (Int.tdiv x7 2)) 2) 1).bind fun t102 => (if t101.size + t102.size ≤ 9223372036854775807 then ((patchbayref1_bin.f (wrap64 (Int.tdiv x0 8)) 1).bind fun t103 => (if (t101 ++ t102).size + t103.size ≤ 9223372036854775807 then ((patchbayref1_bin.f (Int.tmod x7 2) 1).bind fun t104 => (if ((t101 ++ t102) ++ t103).size + t104.size ≤ 9223372036854775807 then ((patchbayref1_bin.f (Int.tmod x0 8) 3).bind fun t105 => (if (((t101 ++ t102) ++ t103) ++ t104).size + t105.size ≤ 9223372036854775807 then (patchbayref1_Hamming.l1 k x0 ((((t101 ++ t102) ++ t103) ++ t104) ++ t105) 0 x7 0) else (none))) else (none))) else (none))) else (none)))) else (some (⟨#[]⟩ : ByteArray))
def patchbayref1_Hamming.l1 : Nat → Int → ByteArray → Int → Int → Int → Option (ByteArray)
  | 0, _, _, _, _, _ => none
  | k + 1, x0, x4, x5, x7, x30 => if x30 < 7 then (if 0 ≤ x30 then (if x30 < (x4.size : Int) then (if (bt x4 x30) = 49 then (patchbayref1_Hamming.l1 k x0 x4 (Go.bits .xor .i64 x5 (wrap64 (x30 + 1))) x7 (wrap64 (x30 + 1))) else (patchbayref1_Hamming.l1 k x0 x4 x5 x7 (wrap64 (x30 + 1)))) else (none)) else (none)) else (if x5 = 0 then (some x4) else (patchbayref1_Hamming.l0 k x0 (wrap64 (x7 + 1))))
end
def patchbayref1_Hamming.f (k : Nat) (a0 : Int) : Option (ByteArray) := patchbayref1_Hamming.l0 k a0 0
theorem patchbayref1_Hamming.mono_l : ∀ k, (∀ y0 y1, LeO (patchbayref1_Hamming.l0 k y0 y1) (patchbayref1_Hamming.l0 (k + 1) y0 y1)) ∧ (∀ y0 y1 y2 y3 y4, LeO (patchbayref1_Hamming.l1 k y0 y1 y2 y3 y4) (patchbayref1_Hamming.l1 (k + 1) y0 y1 y2 y3 y4))
  | 0 => ⟨fun _ _ r h => by simp [patchbayref1_Hamming.l0] at h, fun _ _ _ _ _ r h => by simp [patchbayref1_Hamming.l1] at h⟩
  | k + 1 => by
    obtain ⟨ih0, ih1⟩ := patchbayref1_Hamming.mono_l k
    refine ⟨?_, ?_⟩
    · intro y0 y1
      unfold patchbayref1_Hamming.l0
      repeat' first
      | (with_reducible exact ih0 _ _)
      | (with_reducible exact ih1 _ _ _ _ _)
      | (with_reducible exact LeO.refl _)
      | (with_reducible exact LeO.none _)
      | (with_reducible refine LeO.ite ?_ ?_)
      | (with_reducible refine LeO.bind ?_ (fun _ => ?_))
      | exact ih0 _ _
      | exact ih1 _ _ _ _ _
      | exact LeO.none _
      | refine LeO.ite ?_ ?_
      | refine LeO.bind ?_ (fun _ => ?_)
    · intro y0 y1 y2 y3 y4
      unfold patchbayref1_Hamming.l1
      repeat' first
      | (with_reducible exact ih0 _ _)
      | (with_reducible exact ih1 _ _ _ _ _)
      | (with_reducible exact LeO.refl _)
      | (with_reducible exact LeO.none _)
      | (with_reducible refine LeO.ite ?_ ?_)
      | (with_reducible refine LeO.bind ?_ (fun _ => ?_))
      | exact ih0 _ _
      | exact ih1 _ _ _ _ _
      | exact LeO.none _
      | refine LeO.ite ?_ ?_
      | refine LeO.bind ?_ (fun _ => ?_)
theorem patchbayref1_Hamming.mono : ∀ a0 k, LeO (patchbayref1_Hamming.f k a0) (patchbayref1_Hamming.f (k + 1) a0) := by
  intro a0 k
  obtain ⟨ih0, ih1⟩ := patchbayref1_Hamming.mono_l k
  unfold patchbayref1_Hamming.f
  repeat' first
      | (with_reducible exact ih0 _ _)
      | (with_reducible exact ih1 _ _ _ _ _)
      | (with_reducible exact LeO.refl _)
      | (with_reducible exact LeO.none _)
      | (with_reducible refine LeO.ite ?_ ?_)
      | (with_reducible refine LeO.bind ?_ (fun _ => ?_))
      | exact ih0 _ _
      | exact ih1 _ _ _ _ _
      | exact LeO.none _
      | refine LeO.ite ?_ ?_
      | refine LeO.bind ?_ (fun _ => ?_)
set_option maxHeartbeats 8000000 in
set_option maxRecDepth 100000 in
theorem patchbayref1_Hamming.calls (k : Nat) (a0 : Int) (r : ByteArray) (w : World) (h : patchbayref1_Hamming.f k a0 = some r) :
    Calls Try.prog 25 #[.int .i64 a0] w fun e w' => e = .returned (.string r) ∧ Below w.heap.size w w' := by
  have HB := Aside0.mk (Below.refl w.heap.size w)
  have H : (patchbayref1_Hamming.l0 k a0 0) = some r := h
  clear h
  have H' := Aside0.mk H
  clear H
  go_enter Try.func25, Try.ntmps25
  go_wp2
  go_loopg [7] k (fun kq v7 w' => ∃ (x7_1 : Int), v7 = .int .i64 x7_1 ∧ Aside0 (patchbayref1_Hamming.l0 kq a0 x7_1 = some r) ∧ Aside0 (kq ≤ k) ∧ Aside0 (Below w.heap.size w w'))
  case atStart => exact ⟨(0), (by first | rfl | (simp; done) | (simp [*]; done)), H', ⟨Nat.le_refl _⟩, ⟨by repeat (first | (with_reducible first | exact HB.out | apply below_alloc | apply pw_below_drewN | apply below_drew1) | exact HB.out)⟩⟩
  case round =>
    clear H'
    obtain ⟨x7_1, rfl, HA, HK1, HB⟩ := hrel
    cases gk with
    | zero => exact absurd HA.out (by simp [patchbayref1_Hamming.l0])
    | succ k1 =>
      have H := HA.out
      clear HA
      simp only [patchbayref1_Hamming.l0] at H
      by_cases c2 : x7_1 < 8
      · rw [if_pos c2] at H
        have c2b0 : decide (x7_1 < 8) = true := decide_eq_true c2
        clear c2
        replace H := Option.bind_eq_some_iff.mp H
        obtain ⟨t101, A30, H⟩ := H
        replace H : ((patchbayref1_bin.f (Int.tmod (wrap64 (Int.tdiv x7_1 2)) 2) 1).bind fun t102 => (if t101.size + t102.size ≤ 9223372036854775807 then ((patchbayref1_bin.f (wrap64 (Int.tdiv a0 8)) 1).bind fun t103 => (if (t101 ++ t102).size + t103.size ≤ 9223372036854775807 then ((patchbayref1_bin.f (Int.tmod x7_1 2) 1).bind fun t104 => (if ((t101 ++ t102) ++ t103).size + t104.size ≤ 9223372036854775807 then ((patchbayref1_bin.f (Int.tmod a0 8) 3).bind fun t105 => (if (((t101 ++ t102) ++ t103) ++ t104).size + t105.size ≤ 9223372036854775807 then (patchbayref1_Hamming.l1 k1 a0 ((((t101 ++ t102) ++ t103) ++ t104) ++ t105) 0 x7_1 0) else (none))) else (none))) else (none))) else (none))) = some r := H
        have A3 := Aside0.mk A30
        clear A30
        replace H := Option.bind_eq_some_iff.mp H
        obtain ⟨t102, A40, H⟩ := H
        replace H : (if t101.size + t102.size ≤ 9223372036854775807 then ((patchbayref1_bin.f (wrap64 (Int.tdiv a0 8)) 1).bind fun t103 => (if (t101 ++ t102).size + t103.size ≤ 9223372036854775807 then ((patchbayref1_bin.f (Int.tmod x7_1 2) 1).bind fun t104 => (if ((t101 ++ t102) ++ t103).size + t104.size ≤ 9223372036854775807 then ((patchbayref1_bin.f (Int.tmod a0 8) 3).bind fun t105 => (if (((t101 ++ t102) ++ t103) ++ t104).size + t105.size ≤ 9223372036854775807 then (patchbayref1_Hamming.l1 k1 a0 ((((t101 ++ t102) ++ t103) ++ t104) ++ t105) 0 x7_1 0) else (none))) else (none))) else (none))) else (none)) = some r := H
        have A4 := Aside0.mk A40
        clear A40
        by_cases c5 : t101.size + t102.size ≤ 9223372036854775807
        · rw [if_pos c5] at H
          have c5b0 := eq_true c5
          have c5b1 : decide (t101.size + t102.size ≤ 9223372036854775807) = true := decide_eq_true c5
          try have c5b2 : (9223372036854775807 < t101.size + t102.size) = False := eq_false (Nat.not_lt.2 c5)
          try (have c5b2x := c5b2; simp only [ByteArray.size_append] at c5b2x)
          replace H := Option.bind_eq_some_iff.mp H
          obtain ⟨t103, A60, H⟩ := H
          replace H : (if (t101 ++ t102).size + t103.size ≤ 9223372036854775807 then ((patchbayref1_bin.f (Int.tmod x7_1 2) 1).bind fun t104 => (if ((t101 ++ t102) ++ t103).size + t104.size ≤ 9223372036854775807 then ((patchbayref1_bin.f (Int.tmod a0 8) 3).bind fun t105 => (if (((t101 ++ t102) ++ t103) ++ t104).size + t105.size ≤ 9223372036854775807 then (patchbayref1_Hamming.l1 k1 a0 ((((t101 ++ t102) ++ t103) ++ t104) ++ t105) 0 x7_1 0) else (none))) else (none))) else (none)) = some r := H
          have A6 := Aside0.mk A60
          clear A60
          by_cases c7 : (t101 ++ t102).size + t103.size ≤ 9223372036854775807
          · rw [if_pos c7] at H
            have c7b0 := eq_true c7
            have c7b1 : decide ((t101 ++ t102).size + t103.size ≤ 9223372036854775807) = true := decide_eq_true c7
            try have c7b2 : (9223372036854775807 < (t101 ++ t102).size + t103.size) = False := eq_false (Nat.not_lt.2 c7)
            try (have c7b2x := c7b2; simp only [ByteArray.size_append] at c7b2x)
            replace H := Option.bind_eq_some_iff.mp H
            obtain ⟨t104, A80, H⟩ := H
            replace H : (if ((t101 ++ t102) ++ t103).size + t104.size ≤ 9223372036854775807 then ((patchbayref1_bin.f (Int.tmod a0 8) 3).bind fun t105 => (if (((t101 ++ t102) ++ t103) ++ t104).size + t105.size ≤ 9223372036854775807 then (patchbayref1_Hamming.l1 k1 a0 ((((t101 ++ t102) ++ t103) ++ t104) ++ t105) 0 x7_1 0) else (none))) else (none)) = some r := H
            have A8 := Aside0.mk A80
            clear A80
            by_cases c9 : ((t101 ++ t102) ++ t103).size + t104.size ≤ 9223372036854775807
            · rw [if_pos c9] at H
              have c9b0 := eq_true c9
              have c9b1 : decide (((t101 ++ t102) ++ t103).size + t104.size ≤ 9223372036854775807) = true := decide_eq_true c9
              try have c9b2 : (9223372036854775807 < ((t101 ++ t102) ++ t103).size + t104.size) = False := eq_false (Nat.not_lt.2 c9)
              try (have c9b2x := c9b2; simp only [ByteArray.size_append] at c9b2x)
              replace H := Option.bind_eq_some_iff.mp H
              obtain ⟨t105, A100, H⟩ := H
              replace H : (if (((t101 ++ t102) ++ t103) ++ t104).size + t105.size ≤ 9223372036854775807 then (patchbayref1_Hamming.l1 k1 a0 ((((t101 ++ t102) ++ t103) ++ t104) ++ t105) 0 x7_1 0) else (none)) = some r := H
              have A10 := Aside0.mk A100
              clear A100
              by_cases c11 : (((t101 ++ t102) ++ t103) ++ t104).size + t105.size ≤ 9223372036854775807
              · rw [if_pos c11] at H
                have c11b0 := eq_true c11
                have c11b1 : decide ((((t101 ++ t102) ++ t103) ++ t104).size + t105.size ≤ 9223372036854775807) = true := decide_eq_true c11
                try have c11b2 : (9223372036854775807 < (((t101 ++ t102) ++ t103) ++ t104).size + t105.size) = False := eq_false (Nat.not_lt.2 c11)
                try (have c11b2x := c11b2; simp only [ByteArray.size_append] at c11b2x)
                have H' := Aside0.mk H
                clear H
                go_wp2_with (first | ((with_reducible refine gate_callee (f := 67) rfl ?_); refine goesL_ (some 12) rfl rfl Try.func67 (by kernel_rfl) rfl #[.int .i64 (wrap64 (Int.tdiv x7_1 4)), .int .i64 1] rfl (by (try simp only [List.map_toArray, List.map_cons, List.map_nil]); first | done | rfl | (simp only [List.length_drop, List.length_take]; rfl)) ?_; (with_reducible refine (patchbayref1_bin.calls (wrap64 (Int.tdiv x7_1 4)) 1 t101 _ A3.out).mono ?_); rintro e w12 ⟨rfl, hb⟩; refine ⟨_, rfl, ?_⟩; have n0_ := Aside0.mk (below_step (by repeat (first | (with_reducible first | exact HB.out | apply below_alloc | apply pw_below_drewN | apply below_drew1) | exact HB.out)) hb); clear HB; have HB := n0_; clear n0_; (try clear hb); (try clear hb2); (try clear hk); (try clear hi)) | ((with_reducible refine gate_callee (f := 67) rfl ?_); refine goesL_ (some 16) rfl rfl Try.func67 (by kernel_rfl) rfl #[.int .i64 (Int.tmod (wrap64 (Int.tdiv x7_1 2)) 2), .int .i64 1] rfl (by (try simp only [List.map_toArray, List.map_cons, List.map_nil]); first | done | rfl | (simp only [List.length_drop, List.length_take]; rfl)) ?_; (with_reducible refine (patchbayref1_bin.calls (Int.tmod (wrap64 (Int.tdiv x7_1 2)) 2) 1 t102 _ A4.out).mono ?_); rintro e w13 ⟨rfl, hb⟩; refine ⟨_, rfl, ?_⟩; have n0_ := Aside0.mk (below_step (by repeat (first | (with_reducible first | exact HB.out | apply below_alloc | apply pw_below_drewN | apply below_drew1) | exact HB.out)) hb); clear HB; have HB := n0_; clear n0_; (try clear hb); (try clear hb2); (try clear hk); (try clear hi)) | ((with_reducible refine gate_callee (f := 67) rfl ?_); refine goesL_ (some 20) rfl rfl Try.func67 (by kernel_rfl) rfl #[.int .i64 (wrap64 (Int.tdiv a0 8)), .int .i64 1] rfl (by (try simp only [List.map_toArray, List.map_cons, List.map_nil]); first | done | rfl | (simp only [List.length_drop, List.length_take]; rfl)) ?_; (with_reducible refine (patchbayref1_bin.calls (wrap64 (Int.tdiv a0 8)) 1 t103 _ A6.out).mono ?_); rintro e w14 ⟨rfl, hb⟩; refine ⟨_, rfl, ?_⟩; have n0_ := Aside0.mk (below_step (by repeat (first | (with_reducible first | exact HB.out | apply below_alloc | apply pw_below_drewN | apply below_drew1) | exact HB.out)) hb); clear HB; have HB := n0_; clear n0_; (try clear hb); (try clear hb2); (try clear hk); (try clear hi)) | ((with_reducible refine gate_callee (f := 67) rfl ?_); refine goesL_ (some 24) rfl rfl Try.func67 (by kernel_rfl) rfl #[.int .i64 (Int.tmod x7_1 2), .int .i64 1] rfl (by (try simp only [List.map_toArray, List.map_cons, List.map_nil]); first | done | rfl | (simp only [List.length_drop, List.length_take]; rfl)) ?_; (with_reducible refine (patchbayref1_bin.calls (Int.tmod x7_1 2) 1 t104 _ A8.out).mono ?_); rintro e w15 ⟨rfl, hb⟩; refine ⟨_, rfl, ?_⟩; have n0_ := Aside0.mk (below_step (by repeat (first | (with_reducible first | exact HB.out | apply below_alloc | apply pw_below_drewN | apply below_drew1) | exact HB.out)) hb); clear HB; have HB := n0_; clear n0_; (try clear hb); (try clear hb2); (try clear hk); (try clear hi)) | ((with_reducible refine gate_callee (f := 67) rfl ?_); refine goesL_ (some 28) rfl rfl Try.func67 (by kernel_rfl) rfl #[.int .i64 (Int.tmod a0 8), .int .i64 3] rfl (by (try simp only [List.map_toArray, List.map_cons, List.map_nil]); first | done | rfl | (simp only [List.length_drop, List.length_take]; rfl)) ?_; (with_reducible refine (patchbayref1_bin.calls (Int.tmod a0 8) 3 t105 _ A10.out).mono ?_); rintro e w16 ⟨rfl, hb⟩; refine ⟨_, rfl, ?_⟩; have n0_ := Aside0.mk (below_step (by repeat (first | (with_reducible first | exact HB.out | apply below_alloc | apply pw_below_drewN | apply below_drew1) | exact HB.out)) hb); clear HB; have HB := n0_; clear n0_; (try clear hb); (try clear hb2); (try clear hk); (try clear hi)))
                generalize ((((t101 ++ t102) ++ t103) ++ t104) ++ t105) = sx1 at H' ⊢
                go_loopg [5, 30] k1 (fun kq v5 v30 w' => ∃ (x5_2 : Int) (x30_2 : Int), v5 = .int .i64 x5_2 ∧ v30 = .int .i64 x30_2 ∧ Aside0 (patchbayref1_Hamming.l1 kq a0 sx1 x5_2 x7_1 x30_2 = some r) ∧ Aside0 (kq ≤ k1) ∧ Aside0 (Below w.heap.size w w'))
                case atStart => exact ⟨(0), (0), (by first | rfl | (simp; done) | (simp [*]; done)), (by first | rfl | (simp; done) | (simp [*]; done)), H', ⟨Nat.le_refl _⟩, ⟨by repeat (first | (with_reducible first | exact HB.out | apply below_alloc | apply pw_below_drewN | apply below_drew1) | exact HB.out)⟩⟩
                case round =>
                  clear H'
                  try clear c1
                  try clear c2
                  try clear c2b0
                  try clear p2
                  try clear c5
                  try clear c5b0
                  try clear c5b1
                  try clear c5b2
                  try clear c6
                  try clear p6
                  try clear c7
                  try clear c7b0
                  try clear c7b1
                  try clear c7b2
                  try clear c9
                  try clear c9b0
                  try clear c9b1
                  try clear c9b2
                  try clear c11
                  try clear c11b0
                  try clear c11b1
                  try clear c11b2
                  obtain ⟨x5_2, x30_2, rfl, rfl, HA, HK2, HB⟩ := hrel
                  cases gk with
                  | zero => exact absurd HA.out (by simp [patchbayref1_Hamming.l1])
                  | succ k2 =>
                    have H := HA.out
                    clear HA
                    simp only [patchbayref1_Hamming.l1] at H
                    by_cases c17 : x30_2 < 7
                    · rw [if_pos c17] at H
                      have c17b0 : decide (x30_2 < 7) = true := decide_eq_true c17
                      clear c17
                      by_cases c18 : 0 ≤ x30_2
                      · rw [if_pos c18] at H
                        have c18b0 : decide (0 ≤ x30_2) = true := decide_eq_true c18
                        clear c18
                        by_cases c19 : x30_2 < (sx1.size : Int)
                        · rw [if_pos c19] at H
                          have c19b0 : decide (x30_2 < (sx1.size : Int)) = true := decide_eq_true c19
                          clear c19
                          by_cases c21 : (bt sx1 x30_2) = 49
                          · rw [if_pos c21] at H
                            have c21b0 : ((bt sx1 x30_2) == 49) = true := beq_iff_eq.mpr c21
                            have c21b1 : ((bt sx1 x30_2) != 49) = false := bne_eq_false_iff_eq.mpr c21
                            clear c21
                            have H' := Aside0.mk H
                            clear H
                            have p20 : 0 ≤ (x30_2 : Int) := of_decide_eq_true (by first | (with_reducible assumption) | assumption)
                            have q20 : x30_2 < (sx1.size : Int) := of_decide_eq_true (by first | (with_reducible assumption) | assumption)
                            have hx20 := bt_at sx1 x30_2
                            replace p20 := eq_true p20
                            replace q20 := eq_true q20
                            go_wp2
                            go_roundg k2
                            case measure => have := HK1.out; have := HK2.out; omega
                            case rel => exact ⟨(Go.bits .xor .i64 x5_2 (wrap64 (x30_2 + 1))), (wrap64 (x30_2 + 1)), (by first | rfl | (simp; done) | (simp [*]; done)), (by first | rfl | (simp; done) | (simp [*]; done)), H', ⟨by have := HK1.out; have := HK2.out; omega⟩, ⟨by repeat (first | (with_reducible first | exact HB.out | apply below_alloc | apply pw_below_drewN | apply below_drew1) | exact HB.out)⟩⟩
                          · rw [if_neg c21] at H
                            have c21b0 : ((bt sx1 x30_2) == 49) = false := beq_eq_false_iff_ne.mpr c21
                            have c21b1 : ((bt sx1 x30_2) != 49) = true := bne_iff_ne.mpr c21
                            have H' := Aside0.mk H
                            clear H
                            have p20 : 0 ≤ (x30_2 : Int) := of_decide_eq_true (by first | (with_reducible assumption) | assumption)
                            have q20 : x30_2 < (sx1.size : Int) := of_decide_eq_true (by first | (with_reducible assumption) | assumption)
                            have hx20 := bt_at sx1 x30_2
                            replace p20 := eq_true p20
                            replace q20 := eq_true q20
                            go_wp2
                            go_roundg k2
                            case measure => have := HK1.out; have := HK2.out; omega
                            case rel => exact ⟨(x5_2), (wrap64 (x30_2 + 1)), (by first | rfl | (simp; done) | (simp [*]; done)), (by first | rfl | (simp; done) | (simp [*]; done)), H', ⟨by have := HK1.out; have := HK2.out; omega⟩, ⟨by repeat (first | (with_reducible first | exact HB.out | apply below_alloc | apply pw_below_drewN | apply below_drew1) | exact HB.out)⟩⟩
                        · rw [if_neg c19] at H
                          exact absurd H (by simp)
                      · rw [if_neg c18] at H
                        exact absurd H (by simp)
                    · rw [if_neg c17] at H
                      have c17b0 : decide (x30_2 < 7) = false := decide_eq_false c17
                      clear c17
                      by_cases c22 : x5_2 = 0
                      · rw [if_pos c22] at H
                        have c22b0 : (x5_2 == 0) = true := beq_iff_eq.mpr c22
                        have c22b1 : (x5_2 != 0) = false := bne_eq_false_iff_eq.mpr c22
                        clear c22
                        obtain rfl := Option.some.inj H
                        go_wp2
                        go_ret
                        exact ⟨by first | rfl | (simp [errW_none, errW_some] <;> rfl) | (simp [*, errW_none, errW_some] <;> rfl), by repeat (first | (with_reducible first | exact HB.out | apply below_alloc | apply pw_below_drewN | apply below_drew1) | exact HB.out)⟩
                      · rw [if_neg c22] at H
                        have c22b0 : (x5_2 == 0) = false := beq_eq_false_iff_ne.mpr c22
                        have c22b1 : (x5_2 != 0) = true := bne_iff_ne.mpr c22
                        have H' := Aside0.mk H
                        clear H
                        go_wp2
                        go_roundg k2
                        case measure => have := HK1.out; have := HK2.out; omega
                        case rel => exact ⟨(wrap64 (x7_1 + 1)), (by first | rfl | (simp; done) | (simp [*]; done)), H', ⟨by have := HK1.out; have := HK2.out; omega⟩, ⟨by repeat (first | (with_reducible first | exact HB.out | apply below_alloc | apply pw_below_drewN | apply below_drew1) | exact HB.out)⟩⟩
              · rw [if_neg c11] at H
                exact absurd H (by simp)
            · rw [if_neg c9] at H
              exact absurd H (by simp)
          · rw [if_neg c7] at H
            exact absurd H (by simp)
        · rw [if_neg c5] at H
          exact absurd H (by simp)
      · rw [if_neg c2] at H
        have c2b0 : decide (x7_1 < 8) = false := decide_eq_false c2
        clear c2
        obtain rfl := Option.some.inj H
        go_wp2
        go_ret
        exact ⟨by first | rfl | (simp [errW_none, errW_some] <;> rfl) | (simp [*, errW_none, errW_some] <;> rfl), by repeat (first | (with_reducible first | exact HB.out | apply below_alloc | apply pw_below_drewN | apply below_drew1) | exact HB.out)⟩

/-! ### fec_good: function 68 -/
def fec_good.l0 : Nat → ByteArray → Int → Int → Option (Bool)
  | 0, _, _, _ => none
  | k + 1, x0, x5, x6 => if x6 < x5 then (if 0 ≤ x6 then (if x6 < (x0.size : Int) then (if (bt x0 x6) = 48 then (fec_good.l0 k x0 x5 (wrap64 (x6 + 1))) else (if (bt x0 x6) = 49 then (fec_good.l0 k x0 x5 (wrap64 (x6 + 1))) else (some false))) else (none)) else (none)) else (some true)
def fec_good.f (k : Nat) (a0 : ByteArray) : Option (Bool) := fec_good.l0 k a0 (a0.size : Int) 0
theorem fec_good.mono_l : ∀ k, (∀ y0 y1 y2, LeO (fec_good.l0 k y0 y1 y2) (fec_good.l0 (k + 1) y0 y1 y2))
  | 0 => fun _ _ _ r h => by simp [fec_good.l0] at h
  | k + 1 => by
    have ih0 := fec_good.mono_l k
    · intro y0 y1 y2
      unfold fec_good.l0
      repeat' first
      | (with_reducible exact ih0 _ _ _)
      | (with_reducible exact LeO.refl _)
      | (with_reducible exact LeO.none _)
      | (with_reducible refine LeO.ite ?_ ?_)
      | (with_reducible refine LeO.bind ?_ (fun _ => ?_))
      | exact ih0 _ _ _
      | exact LeO.none _
      | refine LeO.ite ?_ ?_
      | refine LeO.bind ?_ (fun _ => ?_)
theorem fec_good.mono : ∀ a0 k, LeO (fec_good.f k a0) (fec_good.f (k + 1) a0) := by
  intro a0 k
  have ih0 := fec_good.mono_l k
  unfold fec_good.f
  repeat' first
      | (with_reducible exact ih0 _ _ _)
      | (with_reducible exact LeO.refl _)
      | (with_reducible exact LeO.none _)
      | (with_reducible refine LeO.ite ?_ ?_)
      | (with_reducible refine LeO.bind ?_ (fun _ => ?_))
      | exact ih0 _ _ _
      | exact LeO.none _
      | refine LeO.ite ?_ ?_
      | refine LeO.bind ?_ (fun _ => ?_)
set_option maxHeartbeats 8000000 in
set_option maxRecDepth 100000 in
theorem fec_good.calls (k : Nat) (a0 : ByteArray) (r : Bool) (w : World) (h : fec_good.f k a0 = some r) :
    Calls Try.prog 68 #[.string a0] w fun e w' => e = .returned (.bool r) ∧ Drawn0 w w' := by
  have H : (fec_good.l0 k a0 (a0.size : Int) 0) = some r := h
  clear h
  have H' := Aside0.mk H
  clear H
  go_enter Try.func68, Try.ntmps68
  go_wp2
  go_loopg [6] k (fun kq v6 w' => ∃ (x6_1 : Int), v6 = .int .i64 x6_1 ∧ Aside0 (fec_good.l0 kq a0 (a0.size : Int) x6_1 = some r) ∧ Aside0 (kq ≤ k) ∧ Drawn0 w w')
  case atStart => exact ⟨(0), (by first | rfl | (simp; done) | (simp [*]; done)), H', ⟨Nat.le_refl _⟩, by repeat (first | exact Drawn0.refl _ | apply Drawn0.step)⟩
  case round =>
    clear H'
    obtain ⟨x6_1, rfl, HA, HK1, ⟨m1, rfl⟩⟩ := hrel
    cases gk with
    | zero => exact absurd HA.out (by simp [fec_good.l0])
    | succ k1 =>
      have H := HA.out
      clear HA
      simp only [fec_good.l0] at H
      by_cases c2 : x6_1 < (a0.size : Int)
      · rw [if_pos c2] at H
        have c2b0 : decide (x6_1 < (a0.size : Int)) = true := decide_eq_true c2
        clear c2
        by_cases c3 : 0 ≤ x6_1
        · rw [if_pos c3] at H
          have c3b0 : decide (0 ≤ x6_1) = true := decide_eq_true c3
          clear c3
          by_cases c4 : x6_1 < (a0.size : Int)
          · rw [if_pos c4] at H
            have c4b0 : decide (x6_1 < (a0.size : Int)) = true := decide_eq_true c4
            clear c4
            by_cases c6 : (bt a0 x6_1) = 48
            · rw [if_pos c6] at H
              have c6b0 : ((bt a0 x6_1) == 48) = true := beq_iff_eq.mpr c6
              have c6b1 : ((bt a0 x6_1) != 48) = false := bne_eq_false_iff_eq.mpr c6
              clear c6
              have H' := Aside0.mk H
              clear H
              have p5 : 0 ≤ (x6_1 : Int) := of_decide_eq_true (by first | (with_reducible assumption) | assumption)
              have q5 : x6_1 < (a0.size : Int) := of_decide_eq_true (by first | (with_reducible assumption) | assumption)
              have hx5 := bt_at a0 x6_1
              replace p5 := eq_true p5
              replace q5 := eq_true q5
              go_wp2
              go_roundg k1
              case measure => have := HK1.out; omega
              case rel => exact ⟨(wrap64 (x6_1 + 1)), (by first | rfl | (simp; done) | (simp [*]; done)), H', ⟨by have := HK1.out; omega⟩, by repeat (first | exact Drawn0.refl _ | apply Drawn0.step)⟩
            · rw [if_neg c6] at H
              have c6b0 : ((bt a0 x6_1) == 48) = false := beq_eq_false_iff_ne.mpr c6
              have c6b1 : ((bt a0 x6_1) != 48) = true := bne_iff_ne.mpr c6
              by_cases c8 : (bt a0 x6_1) = 49
              · rw [if_pos c8] at H
                have c8b0 : ((bt a0 x6_1) == 49) = true := beq_iff_eq.mpr c8
                have c8b1 : ((bt a0 x6_1) != 49) = false := bne_eq_false_iff_eq.mpr c8
                clear c8
                have H' := Aside0.mk H
                clear H
                have p5 : 0 ≤ (x6_1 : Int) := of_decide_eq_true (by first | (with_reducible assumption) | assumption)
                have q5 : x6_1 < (a0.size : Int) := of_decide_eq_true (by first | (with_reducible assumption) | assumption)
                have hx5 := bt_at a0 x6_1
                replace p5 := eq_true p5
                replace q5 := eq_true q5
                have p7 : 0 ≤ (x6_1 : Int) := of_decide_eq_true (by first | (with_reducible assumption) | assumption)
                have q7 : x6_1 < (a0.size : Int) := of_decide_eq_true (by first | (with_reducible assumption) | assumption)
                have hx7 := bt_at a0 x6_1
                replace p7 := eq_true p7
                replace q7 := eq_true q7
                go_wp2
                go_roundg k1
                case measure => have := HK1.out; omega
                case rel => exact ⟨(wrap64 (x6_1 + 1)), (by first | rfl | (simp; done) | (simp [*]; done)), H', ⟨by have := HK1.out; omega⟩, by repeat (first | exact Drawn0.refl _ | apply Drawn0.step)⟩
              · rw [if_neg c8] at H
                have c8b0 : ((bt a0 x6_1) == 49) = false := beq_eq_false_iff_ne.mpr c8
                have c8b1 : ((bt a0 x6_1) != 49) = true := bne_iff_ne.mpr c8
                obtain rfl := Option.some.inj H
                have p5 : 0 ≤ (x6_1 : Int) := of_decide_eq_true (by first | (with_reducible assumption) | assumption)
                have q5 : x6_1 < (a0.size : Int) := of_decide_eq_true (by first | (with_reducible assumption) | assumption)
                have hx5 := bt_at a0 x6_1
                replace p5 := eq_true p5
                replace q5 := eq_true q5
                have p7 : 0 ≤ (x6_1 : Int) := of_decide_eq_true (by first | (with_reducible assumption) | assumption)
                have q7 : x6_1 < (a0.size : Int) := of_decide_eq_true (by first | (with_reducible assumption) | assumption)
                have hx7 := bt_at a0 x6_1
                replace p7 := eq_true p7
                replace q7 := eq_true q7
                go_wp2
                go_ret
                exact ⟨by first | rfl | (simp; done) | (simp [*]; done), by repeat (first | exact Drawn0.refl _ | apply Drawn0.step)⟩
          · rw [if_neg c4] at H
            exact absurd H (by simp)
        · rw [if_neg c3] at H
          exact absurd H (by simp)
      · rw [if_neg c2] at H
        have c2b0 : decide (x6_1 < (a0.size : Int)) = false := decide_eq_false c2
        clear c2
        obtain rfl := Option.some.inj H
        go_wp2
        go_ret
        exact ⟨by first | rfl | (simp; done) | (simp [*]; done), by repeat (first | exact Drawn0.refl _ | apply Drawn0.step)⟩

/-! ### fec_fix: function 69 -/
mutual
def fec_fix.l0 : Nat → List Int → Int → List Int → Int → Int → Option (Int × Int)
  | 0, _, _, _, _, _ => none
  | k + 1, x0, x4, x11, x12, x13 => if x13 < x12 then (if 0 ≤ x13 then (if x13 < (x11.length : Int) then (if (rd x11 x13) = 49 then (fec_fix.l0 k x0 (Go.bits .xor .i64 x4 (wrap64 (x13 + 1))) x11 x12 (wrap64 (x13 + 1))) else (fec_fix.l0 k x0 x4 x11 x12 (wrap64 (x13 + 1)))) else (none)) else (none)) else ((some (([3, 5, 6, 7] : List Int) : List Int)).bind fun y107 => (fec_fix.l1 k x0 x4 0 y107 (y107.length : Int) 0))
def fec_fix.l1 : Nat → List Int → Int → Int → List Int → Int → Int → Option (Int × Int)
  | 0, _, _, _, _, _, _ => none
  | k + 1, x0, x4, x7, x25, x26, x27 => if x27 < x26 then (if 0 ≤ x27 then (if x27 < (x25.length : Int) then (if 0 ≤ (wrap64 ((rd x25 x27) - 1)) then (if (wrap64 ((rd x25 x27) - 1)) < (x0.length : Int) then (if (rd x25 x27) = x4 then (fec_fix.l1 k x0 x4 (wrap64 ((wrap64 (2 * x7)) + (Go.bits .xor .i64 (((rd x0 (wrap64 ((rd x25 x27) - 1))) - 48) % 256) 1))) x25 x26 (wrap64 (x27 + 1))) else (fec_fix.l1 k x0 x4 (wrap64 ((wrap64 (2 * x7)) + (((rd x0 (wrap64 ((rd x25 x27) - 1))) - 48) % 256))) x25 x26 (wrap64 (x27 + 1)))) else (none)) else (none)) else (none)) else (none)) else (some (x7, x4))
end
def fec_fix.f (k : Nat) (l0 : List Int) : Option (Int × Int) := fec_fix.l0 k l0 0 l0 (l0.length : Int) 0
theorem fec_fix.mono_l : ∀ k, (∀ y0 y1 y2 y3 y4, LeO (fec_fix.l0 k y0 y1 y2 y3 y4) (fec_fix.l0 (k + 1) y0 y1 y2 y3 y4)) ∧ (∀ y0 y1 y2 y3 y4 y5, LeO (fec_fix.l1 k y0 y1 y2 y3 y4 y5) (fec_fix.l1 (k + 1) y0 y1 y2 y3 y4 y5))
  | 0 => ⟨fun _ _ _ _ _ r h => by simp [fec_fix.l0] at h, fun _ _ _ _ _ _ r h => by simp [fec_fix.l1] at h⟩
  | k + 1 => by
    obtain ⟨ih0, ih1⟩ := fec_fix.mono_l k
    refine ⟨?_, ?_⟩
    · intro y0 y1 y2 y3 y4
      unfold fec_fix.l0
      repeat' first
      | (with_reducible exact ih0 _ _ _ _ _)
      | (with_reducible exact ih1 _ _ _ _ _ _)
      | (with_reducible exact LeO.refl _)
      | (with_reducible exact LeO.none _)
      | (with_reducible refine LeO.ite ?_ ?_)
      | (with_reducible refine LeO.bind ?_ (fun _ => ?_))
      | exact ih0 _ _ _ _ _
      | exact ih1 _ _ _ _ _ _
      | exact LeO.none _
      | refine LeO.ite ?_ ?_
      | refine LeO.bind ?_ (fun _ => ?_)
    · intro y0 y1 y2 y3 y4 y5
      unfold fec_fix.l1
      repeat' first
      | (with_reducible exact ih0 _ _ _ _ _)
      | (with_reducible exact ih1 _ _ _ _ _ _)
      | (with_reducible exact LeO.refl _)
      | (with_reducible exact LeO.none _)
      | (with_reducible refine LeO.ite ?_ ?_)
      | (with_reducible refine LeO.bind ?_ (fun _ => ?_))
      | exact ih0 _ _ _ _ _
      | exact ih1 _ _ _ _ _ _
      | exact LeO.none _
      | refine LeO.ite ?_ ?_
      | refine LeO.bind ?_ (fun _ => ?_)
theorem fec_fix.mono : ∀ a0 k, LeO (fec_fix.f k a0) (fec_fix.f (k + 1) a0) := by
  intro a0 k
  obtain ⟨ih0, ih1⟩ := fec_fix.mono_l k
  unfold fec_fix.f
  repeat' first
      | (with_reducible exact ih0 _ _ _ _ _)
      | (with_reducible exact ih1 _ _ _ _ _ _)
      | (with_reducible exact LeO.refl _)
      | (with_reducible exact LeO.none _)
      | (with_reducible refine LeO.ite ?_ ?_)
      | (with_reducible refine LeO.bind ?_ (fun _ => ?_))
      | exact ih0 _ _ _ _ _
      | exact ih1 _ _ _ _ _ _
      | exact LeO.none _
      | refine LeO.ite ?_ ?_
      | refine LeO.bind ?_ (fun _ => ?_)
set_option maxHeartbeats 8000000 in
set_option maxRecDepth 100000 in
theorem fec_fix.calls (k : Nat) (A0 : Option Addr) (c0 : Nat) (l0 : List Int) (r1 : Int) (r2 : Int) (w : World) (hr0 : Kd.C (Kd.int .u8) w A0 l0.length l0) (hc0 : l0.length ≤ c0) (h : fec_fix.f k l0 = some (r1, r2)) :
    Calls Try.prog 69 #[.slice A0 l0.length c0] w fun e w' => e = .returned (.tuple #[.int .i64 r1, .int .i64 r2]) ∧ Below w.heap.size w w' := by
  have HR0 := Aside0.mk hr0
  have HC0 := Aside0.mk hc0
  clear hr0 hc0
  have HB := Aside0.mk (Below.refl w.heap.size w)
  have H : (fec_fix.l0 k l0 0 l0 (l0.length : Int) 0) = some (r1, r2) := h
  clear h
  have H' := Aside0.mk H
  clear H
  go_enter Try.func69, Try.ntmps69
  go_wp2
  go_loopg [4, 13] k (fun kq v4 v13 w' => ∃ (x4_1 : Int) (x13_1 : Int), v4 = .int .i64 x4_1 ∧ v13 = .int .i64 x13_1 ∧ Aside0 (fec_fix.l0 kq l0 x4_1 l0 (l0.length : Int) x13_1 = some (r1, r2)) ∧ Aside0 (kq ≤ k) ∧ Aside0 (Below w.heap.size w w'))
  case atStart => exact ⟨(0), (0), (by first | rfl | (simp; done) | (simp [*]; done)), (by first | rfl | (simp; done) | (simp [*]; done)), H', ⟨Nat.le_refl _⟩, ⟨by repeat (first | (with_reducible first | exact HB.out | apply below_alloc | apply pw_below_drewN | apply below_drew1) | exact HB.out)⟩⟩
  case round =>
    clear H'
    obtain ⟨x4_1, x13_1, rfl, rfl, HA, HK1, HB⟩ := hrel
    cases gk with
    | zero => exact absurd HA.out (by simp [fec_fix.l0])
    | succ k1 =>
      have H := HA.out
      clear HA
      simp only [fec_fix.l0] at H
      by_cases c2 : x13_1 < (l0.length : Int)
      · rw [if_pos c2] at H
        have c2b0 : decide (x13_1 < (l0.length : Int)) = true := decide_eq_true c2
        clear c2
        by_cases c3 : 0 ≤ x13_1
        · rw [if_pos c3] at H
          have c3b0 : decide (0 ≤ x13_1) = true := decide_eq_true c3
          clear c3
          by_cases c4 : x13_1 < (l0.length : Int)
          · rw [if_pos c4] at H
            have c4b0 : decide (x13_1 < (l0.length : Int)) = true := decide_eq_true c4
            clear c4
            by_cases c5 : (rd l0 x13_1) = 49
            · rw [if_pos c5] at H
              have c5b0 : ((rd l0 x13_1) == 49) = true := beq_iff_eq.mpr c5
              have c5b1 : ((rd l0 x13_1) != 49) = false := bne_eq_false_iff_eq.mpr c5
              clear c5
              have H' := Aside0.mk H
              clear H
              have p106 : 0 ≤ (x13_1 : Int) := of_decide_eq_true (by first | (with_reducible assumption) | assumption)
              have q106 : x13_1 < (l0.length : Int) := of_decide_eq_true (by first | (with_reducible assumption) | assumption)
              obtain ⟨ad106, e106, hx106_0⟩ := Kd.at_int HR0.out x13_1 p106 q106
              cases e106
              replace hx106_0 := (HB.out.cell (World.block_lt_of_cell? w _ hx106_0)).trans hx106_0
              replace p106 := eq_true p106
              replace q106 := eq_true q106
              go_wp2
              go_roundg k1
              case measure => have := HK1.out; omega
              case rel => exact ⟨(Go.bits .xor .i64 x4_1 (wrap64 (x13_1 + 1))), (wrap64 (x13_1 + 1)), (by first | rfl | (simp; done) | (simp [*]; done)), (by first | rfl | (simp; done) | (simp [*]; done)), H', ⟨by have := HK1.out; omega⟩, ⟨by repeat (first | (with_reducible first | exact HB.out | apply below_alloc | apply pw_below_drewN | apply below_drew1) | exact HB.out)⟩⟩
            · rw [if_neg c5] at H
              have c5b0 : ((rd l0 x13_1) == 49) = false := beq_eq_false_iff_ne.mpr c5
              have c5b1 : ((rd l0 x13_1) != 49) = true := bne_iff_ne.mpr c5
              have H' := Aside0.mk H
              clear H
              have p106 : 0 ≤ (x13_1 : Int) := of_decide_eq_true (by first | (with_reducible assumption) | assumption)
              have q106 : x13_1 < (l0.length : Int) := of_decide_eq_true (by first | (with_reducible assumption) | assumption)
              obtain ⟨ad106, e106, hx106_0⟩ := Kd.at_int HR0.out x13_1 p106 q106
              cases e106
              replace hx106_0 := (HB.out.cell (World.block_lt_of_cell? w _ hx106_0)).trans hx106_0
              replace p106 := eq_true p106
              replace q106 := eq_true q106
              go_wp2
              go_roundg k1
              case measure => have := HK1.out; omega
              case rel => exact ⟨(x4_1), (wrap64 (x13_1 + 1)), (by first | rfl | (simp; done) | (simp [*]; done)), (by first | rfl | (simp; done) | (simp [*]; done)), H', ⟨by have := HK1.out; omega⟩, ⟨by repeat (first | (with_reducible first | exact HB.out | apply below_alloc | apply pw_below_drewN | apply below_drew1) | exact HB.out)⟩⟩
          · rw [if_neg c4] at H
            exact absurd H (by simp)
        · rw [if_neg c3] at H
          exact absurd H (by simp)
      · rw [if_neg c2] at H
        have c2b0 : decide (x13_1 < (l0.length : Int)) = false := decide_eq_false c2
        clear c2
        obtain ⟨y107, hy107⟩ : ∃ y_ : List Int, y_ = (([3, 5, 6, 7] : List Int)) := ⟨_, rfl⟩
        replace H : (fec_fix.l1 k1 l0 x4_1 0 y107 (y107.length : Int) 0) = some (r1, r2) := by first | (rw [hy107]; with_reducible exact H) | (have H2_ := (Option.bind_some _ _).symm.trans H; rw [hy107]; with_reducible exact H2_) | (have H2_ := (Option.bind_some _ _).symm.trans H; with_reducible exact H2_) | with_reducible exact H | (rw [hy107]; exact H) | exact H
        have Ny107 := Aside0.mk hy107
        clear hy107
        have H' := Aside0.mk H
        clear H
        go_wp2_with (first | ((with_reducible refine gate_dst (N := 25) rfl ?_); refine Kd.R_lit (Kd.int .i64) _ 3 ?hg (N := 25) ?hd (xs := ([3, 5, 6, 7] : List Int)) (inner := [.int .i64 3, .int .i64 5, .int .i64 6, .int .i64 7]) (ok := fun _ => True) (okp := fun _ => True) ?hr ?hp (fun _ hk => hk) trivial (Below.refl _ _) (Nat.le_refl _) (by simp) ?_; (case hd => rfl); (case hg => rfl); (case hr => first | (go_simp; done) | (go_simp; rfl)); (case hp => exact (Reps.one (show Kd.M (Kd.int .i64) _ _ _ 3 [.int .i64 3] from rfl) (Reps.one (show Kd.M (Kd.int .i64) _ _ _ 5 [.int .i64 5] from rfl) (Reps.one (show Kd.M (Kd.int .i64) _ _ _ 6 [.int .i64 6] from rfl) (Reps.one (show Kd.M (Kd.int .i64) _ _ _ 7 [.int .i64 7] from rfl) (Reps.none _ _)))))); intro v108 w6 ho7 hb hg_ hnew_; clear hg_ hnew_; (first | rw [← Ny107.out] at ho7 | (simp only [Int.reduceToNat] at ho7; rw [← Ny107.out] at ho7)); have n0_ := Aside0.mk (Kd.R_lower ho7 (below_size (by repeat (first | (with_reducible first | exact HB.out | apply below_alloc | apply pw_below_drewN | apply below_drew1) | exact HB.out)))); have n1_ := Aside0.mk (below_step (by repeat (first | (with_reducible first | exact HB.out | apply below_alloc | apply pw_below_drewN | apply below_drew1) | exact HB.out)) hb); clear HB; have HO109 := n0_; have HB := n1_; clear n0_ n1_; clear hb ho7; obtain ⟨Ao8, co8, eo8⟩ := Kd.R_slice HO109.out; subst eo8))
        go_loopg [7, 27] k1 (fun kq v7 v27 w' => ∃ (x7_2 : Int) (x27_2 : Int), v7 = .int .i64 x7_2 ∧ v27 = .int .i64 x27_2 ∧ Aside0 (fec_fix.l1 kq l0 x4_1 x7_2 y107 (y107.length : Int) x27_2 = some (r1, r2)) ∧ Aside0 (kq ≤ k1) ∧ Aside0 (Kd.R (Kd.int .i64) 3 w' w.heap.size (fun _ => True) (.slice Ao8 y107.length co8) y107) ∧ Aside0 (Below w.heap.size w w'))
        case atStart => exact ⟨(0), (0), (by first | rfl | (simp; done) | (simp [*]; done)), (by first | rfl | (simp; done) | (simp [*]; done)), H', ⟨Nat.le_refl _⟩, ⟨by (with_reducible repeat (first | apply Kd.R_alloc | apply Kd.R_drewN | apply Kd.R_drew)); exact HO109.out⟩, ⟨by repeat (first | (with_reducible first | exact HB.out | apply below_alloc | apply pw_below_drewN | apply below_drew1) | exact HB.out)⟩⟩
        case round =>
          clear H'
          try clear p1
          try clear q1
          try clear hx1
          try clear c2
          try clear c2b0
          try clear p2
          try clear c3
          try clear c3b0
          try clear c4
          try clear c4b0
          try clear c5
          try clear c5b0
          try clear c5b1
          try clear c6
          try clear p6
          try clear hx106_0
          try clear p106
          try clear q106
          obtain ⟨x7_2, x27_2, rfl, rfl, HA, HK2, HO_25, HB⟩ := hrel
          cases gk with
          | zero => exact absurd HA.out (by simp [fec_fix.l1])
          | succ k2 =>
            have H := HA.out
            clear HA
            simp only [fec_fix.l1] at H
            by_cases c9 : x27_2 < (y107.length : Int)
            · rw [if_pos c9] at H
              have c9b0 : decide (x27_2 < (y107.length : Int)) = true := decide_eq_true c9
              clear c9
              by_cases c10 : 0 ≤ x27_2
              · rw [if_pos c10] at H
                have c10b0 : decide (0 ≤ x27_2) = true := decide_eq_true c10
                clear c10
                by_cases c11 : x27_2 < (y107.length : Int)
                · rw [if_pos c11] at H
                  have c11b0 : decide (x27_2 < (y107.length : Int)) = true := decide_eq_true c11
                  clear c11
                  obtain ⟨ji12, hji12⟩ : ∃ j_ : Int, (wrap64 ((rd y107 x27_2) - 1)) = j_ := ⟨_, rfl⟩
                  replace H : (if 0 ≤ (ji12) then (if (ji12) < (l0.length : Int) then (if (rd y107 x27_2) = x4_1 then (fec_fix.l1 k2 l0 x4_1 (wrap64 ((wrap64 (2 * x7_2)) + (Go.bits .xor .i64 (((rd l0 (ji12)) - 48) % 256) 1))) y107 (y107.length : Int) (wrap64 (x27_2 + 1))) else (fec_fix.l1 k2 l0 x4_1 (wrap64 ((wrap64 (2 * x7_2)) + (((rd l0 (ji12)) - 48) % 256))) y107 (y107.length : Int) (wrap64 (x27_2 + 1)))) else (none)) else (none)) = some (r1, r2) := by first | (rw [hji12] at H; exact H) | (simp only [hji12] at H ⊢; exact H)
                  have hji12w : (IntKind.i64.wrap ((rd y107 x27_2) - 1)) = ji12 := (i64_w _).trans hji12
                  by_cases c13 : 0 ≤ (ji12)
                  · rw [if_pos c13] at H
                    have c13b0 : decide (0 ≤ (ji12)) = true := decide_eq_true c13
                    clear c13
                    by_cases c14 : (ji12) < (l0.length : Int)
                    · rw [if_pos c14] at H
                      have c14b0 : decide ((ji12) < (l0.length : Int)) = true := decide_eq_true c14
                      clear c14
                      by_cases c15 : (rd y107 x27_2) = x4_1
                      · rw [if_pos c15] at H
                        have c15b0 : ((rd y107 x27_2) == x4_1) = true := beq_iff_eq.mpr c15
                        have c15b1 : ((rd y107 x27_2) != x4_1) = false := bne_eq_false_iff_eq.mpr c15
                        clear c15
                        have H' := Aside0.mk H
                        clear H
                        have p110 : 0 ≤ (x27_2 : Int) := of_decide_eq_true (by first | (with_reducible assumption) | assumption)
                        have q110 : x27_2 < (y107.length : Int) := of_decide_eq_true (by first | (with_reducible assumption) | assumption)
                        obtain ⟨ad110, e110, hx110_0⟩ := Kd.at_int (Kd.R_reads' HO_25.out).2.2 x27_2 p110 q110
                        cases e110
                        replace p110 := eq_true p110
                        replace q110 := eq_true q110
                        have p111 : 0 ≤ ((ji12) : Int) := of_decide_eq_true (by first | (with_reducible assumption) | assumption)
                        have q111 : (ji12) < (l0.length : Int) := of_decide_eq_true (by first | (with_reducible assumption) | assumption)
                        obtain ⟨ad111, e111, hx111_0⟩ := Kd.at_int HR0.out (ji12) p111 q111
                        cases e111
                        replace hx111_0 := (HB.out.cell (World.block_lt_of_cell? w _ hx111_0)).trans hx111_0
                        replace p111 := eq_true p111
                        replace q111 := eq_true q111
                        go_wp2
                        go_roundg k2
                        case measure => have := HK1.out; have := HK2.out; omega
                        case rel => exact ⟨(wrap64 ((wrap64 (2 * x7_2)) + (Go.bits .xor .i64 (((rd l0 (ji12)) - 48) % 256) 1))), (wrap64 (x27_2 + 1)), (by first | rfl | (simp; done) | (simp only [← hji12] <;> (first | rfl | simp)) | (simp [*]; done)), (by first | rfl | (simp; done) | (simp [*]; done)), H', ⟨by have := HK1.out; have := HK2.out; omega⟩, ⟨by (with_reducible repeat (first | apply Kd.R_alloc | apply Kd.R_drewN | apply Kd.R_drew)); exact HO_25.out⟩, ⟨by repeat (first | (with_reducible first | exact HB.out | apply below_alloc | apply pw_below_drewN | apply below_drew1) | exact HB.out)⟩⟩
                      · rw [if_neg c15] at H
                        have c15b0 : ((rd y107 x27_2) == x4_1) = false := beq_eq_false_iff_ne.mpr c15
                        have c15b1 : ((rd y107 x27_2) != x4_1) = true := bne_iff_ne.mpr c15
                        have H' := Aside0.mk H
                        clear H
                        have p110 : 0 ≤ (x27_2 : Int) := of_decide_eq_true (by first | (with_reducible assumption) | assumption)
                        have q110 : x27_2 < (y107.length : Int) := of_decide_eq_true (by first | (with_reducible assumption) | assumption)
                        obtain ⟨ad110, e110, hx110_0⟩ := Kd.at_int (Kd.R_reads' HO_25.out).2.2 x27_2 p110 q110
                        cases e110
                        replace p110 := eq_true p110
                        replace q110 := eq_true q110
                        have p111 : 0 ≤ ((ji12) : Int) := of_decide_eq_true (by first | (with_reducible assumption) | assumption)
                        have q111 : (ji12) < (l0.length : Int) := of_decide_eq_true (by first | (with_reducible assumption) | assumption)
                        obtain ⟨ad111, e111, hx111_0⟩ := Kd.at_int HR0.out (ji12) p111 q111
                        cases e111
                        replace hx111_0 := (HB.out.cell (World.block_lt_of_cell? w _ hx111_0)).trans hx111_0
                        replace p111 := eq_true p111
                        replace q111 := eq_true q111
                        go_wp2
                        go_roundg k2
                        case measure => have := HK1.out; have := HK2.out; omega
                        case rel => exact ⟨(wrap64 ((wrap64 (2 * x7_2)) + (((rd l0 (ji12)) - 48) % 256))), (wrap64 (x27_2 + 1)), (by first | rfl | (simp; done) | (simp only [← hji12] <;> (first | rfl | simp)) | (simp [*]; done)), (by first | rfl | (simp; done) | (simp [*]; done)), H', ⟨by have := HK1.out; have := HK2.out; omega⟩, ⟨by (with_reducible repeat (first | apply Kd.R_alloc | apply Kd.R_drewN | apply Kd.R_drew)); exact HO_25.out⟩, ⟨by repeat (first | (with_reducible first | exact HB.out | apply below_alloc | apply pw_below_drewN | apply below_drew1) | exact HB.out)⟩⟩
                    · rw [if_neg c14] at H
                      exact absurd H (by simp)
                  · rw [if_neg c13] at H
                    exact absurd H (by simp)
                · rw [if_neg c11] at H
                  exact absurd H (by simp)
              · rw [if_neg c10] at H
                exact absurd H (by simp)
            · rw [if_neg c9] at H
              have c9b0 : decide (x27_2 < (y107.length : Int)) = false := decide_eq_false c9
              clear c9
              simp only [Option.some.injEq, Prod.mk.injEq] at H
              obtain ⟨rfl, rfl⟩ := H
              go_wp2
              go_ret2
              exact ⟨by first | rfl | (simp [errW_none, errW_some] <;> rfl) | (simp [*, errW_none, errW_some] <;> rfl), by repeat (first | (with_reducible first | exact HB.out | apply below_alloc | apply pw_below_drewN | apply below_drew1) | exact HB.out)⟩

/-! ### fec_Fix: function 26 -/
def fec_Fix.f (k : Nat) (a0 : ByteArray) : Option (Int × Int × Int) := if (a0.size : Int) = 7 then (fec_good.f k a0).bind fun t => if t = true then (fec_fix.f k (bytesOf a0)).bind fun p => some (p.1, p.2, 0) else some (0, 0, 3) else some (0, 0, 3)
theorem fec_Fix.mono : ∀ a0 k, LeO (fec_Fix.f k a0) (fec_Fix.f (k + 1) a0) := by
  intro a0 k
  unfold fec_Fix.f
  refine LeO.ite (LeO.bind (fec_good.mono _ _) (fun _ => LeO.ite (LeO.bind (fec_fix.mono _ _) (fun _ => LeO.refl _)) (LeO.refl _))) (LeO.refl _)
set_option maxRecDepth 100000 in
set_option maxHeartbeats 1000000 in
theorem fec_Fix.calls (k : Nat) (a0 : ByteArray) (r1 : Int) (r2 : Int) (r3 : Int) (w : World) (h : fec_Fix.f k a0 = some (r1, r2, r3)) :
    Calls Try.prog 26 #[.string a0] w fun e w' => e = .returned (.tuple #[.int .i64 r1, .int .i64 r2, .int .i64 r3]) ∧ Below w.heap.size w w' := by
  unfold fec_Fix.f at h
  by_cases c0 : (a0.size : Int) = 7
  · rw [if_pos c0] at h
    have C0 := Lib.hid c0
    have q0 : ((a0.size : Int) == 7) = true := by simp [c0]
    have q1 : ((a0.size : Int) != 7) = false := by simp [c0]
    clear c0
    cases hg : fec_good.f k a0 with
    | none => rw [hg] at h; cases h
    | some t =>
      rw [hg] at h
      simp only [Option.bind_some] at h
      have GC : Hid (∀ w1 : World, Calls Try.prog 68 #[.string a0] w1 fun e w' => e = .returned (.bool t) ∧ Drawn0 w1 w') := fun w1 => fec_good.calls k a0 t w1 hg
      clear hg
      cases t with
      | false =>
        simp only [Bool.false_eq_true, if_false, Option.some.injEq, Prod.mk.injEq] at h
        obtain ⟨rfl, rfl, rfl⟩ := h
        go_enter Try.func26, Try.ntmps26
        go_wp2_with (go_at_call 68; ((with_reducible refine (GC.out _).mono ?_)); rintro e w1 ⟨rfl, ⟨m, rfl⟩⟩)
        go_ret3
        exact ⟨rfl, below_drewN (Below.refl _ _) _⟩
      | true =>
        simp only [if_true] at h
        cases hf : fec_fix.f k (bytesOf a0) with
        | none => rw [hf] at h; cases h
        | some p =>
          rw [hf] at h
          simp only [Option.bind_some, Option.some.injEq, Prod.mk.injEq] at h
          obtain ⟨rfl, rfl, rfl⟩ := h
          have FC : Hid (∀ (w1 : World) (A : Option Addr) (c : Nat), Kd.C (Kd.int .u8) w1 A (bytesOf a0).length (bytesOf a0) → (bytesOf a0).length ≤ c → Calls Try.prog 69 #[.slice A (bytesOf a0).length c] w1 fun e w' => e = .returned (.tuple #[.int .i64 p.1, .int .i64 p.2]) ∧ Below w1.heap.size w1 w') := fun w1 A c h1 h2 => fec_fix.calls k A c (bytesOf a0) p.1 p.2 w1 h1 h2 hf
          clear hf
          have hs : a0.size ≤ 9223372036854775807 := by have := C0.out; omega
          have FB : Hid (∀ (W : World), Calls Try.prog 69 #[.slice (some ⟨W.heap.size, 0, none⟩) a0.size (grownCap W a0.size 0 5)] (Lib.bytesWorld W 5 a0) fun e w' => e = .returned (.tuple #[.int .i64 p.1, .int .i64 p.2]) ∧ Below (Lib.bytesWorld W 5 a0).heap.size (Lib.bytesWorld W 5 a0) w') := by
            intro W
            have hr := bytes_reads W 5 a0 hs
            have hl := bytesOf_length a0
            have h1 : Kd.C (Kd.int .u8) (Lib.bytesWorld W 5 a0) (some ⟨W.heap.size, 0, none⟩) (bytesOf a0).length (bytesOf a0) := by
              rw [hl]; exact Kd.C_of_reads (d := (0 : Int)) (h1 := fun _ => rfl) hr
            have := FC.out _ _ (grownCap W a0.size 0 5) h1 (by rw [hl]; exact grownCap_ge _ _ _ _)
            rwa [hl] at this
          clear FC
          have FB2 : Hid (∀ m : Nat, Calls Try.prog 69 #[.slice (some ⟨w.heap.size, 0, none⟩) a0.size (grownCap (w.drewN m) a0.size 0 5)] (Lib.bytesWorld (w.drewN m) 5 a0) fun e w' => e = .returned (.tuple #[.int .i64 p.1, .int .i64 p.2]) ∧ Below w.heap.size w w') := fun m => (FB.out (w.drewN m)).mono fun e w' ⟨he, hb⟩ => ⟨he, (bytes_below (below_drewN (Below.refl _ _) m) (Nat.le_refl _) 5 a0).trans (hb.mono (bytes_below (below_drewN (Below.refl w.heap.size w) m) (Nat.le_refl _) 5 a0).size)⟩
          clear FB
          have kb := fun W => print_bytes (P := Try.prog) 9 113 5 Try.underlying9 Try.underlying113 Try.underlying5 a0 W
          go_enter Try.func26, Try.ntmps26
          go_wp2_with (first
            | (go_at_call 68; ((with_reducible refine (GC.out _).mono ?_)); rintro e w1 ⟨rfl, ⟨m, rfl⟩⟩)
            | (go_at_call 69; ((with_reducible refine (FB2.out _).mono ?_)); rintro e w1 ⟨rfl, hb⟩; have HB := Lib.hid hb; clear hb))
          go_ret3
          exact ⟨rfl, HB.out⟩
  · rw [if_neg c0] at h
    simp only [Option.some.injEq, Prod.mk.injEq] at h
    obtain ⟨rfl, rfl, rfl⟩ := h
    have q0 : ((a0.size : Int) == 7) = false := by simpa using c0
    have q1 : ((a0.size : Int) != 7) = true := by simpa using c0
    clear c0
    go_enter Try.func26, Try.ntmps26
    go_wp2
    go_ret3
    exact ⟨rfl, Below.refl _ _⟩

end Go.Proofs.Ytfeddgeihpfjfab.JFecSays
