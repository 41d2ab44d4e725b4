/- The reference's Sealed and Opened; products; the two ways to join. -/
import Derived.Test.YtfeddgeihpfjfabCrcOps
set_option linter.unusedSimpArgs false
set_option linter.unusedVariables false
namespace Go.Proofs.Ytfeddgeihpfjfab
open Go.RowKit Crc

set_option maxRecDepth 100000 in
theorem refSealed_any (s : ByteArray) (hs : s.size ≤ 140737488351232) (w : World) :
    Calls Try.prog 62 #[.string s] w fun e w' => e = .returned (.string (bs (sealed s.data.toList))) ∧ Below w.heap.size w w' := by
  have HS : Hid (Calls Try.prog 103 #[.string s] w fun e w' => e = .returned (U (sum s.data.toList)) ∧ w = w') := refSum_any s (by omega) w
  have hfin : s ++ bs (big (sum s.data.toList).toNat 4) = bs (sealed s.data.toList) := by
    conv => lhs; rw [← bs_list s]
    rw [bs_append]; rfl
  have HFIN := Lib.hid hfin
  clear hfin
  generalize hc : sum s.data.toList = c at HS HFIN
  clear hc
  have h0 := wn_ge c
  have h1 := wn_lt c
  have HB : Hid (∀ W : World, Calls Try.prog 102 #[.int .i64 (wn c), .int .i64 4] W fun e w' => e = .returned (.string (bs (big c.toNat 4))) ∧ Below W.heap.size W w') := fun W => big_any 4 c.toNat 4 rfl (by have := c.isLt; omega) (by omega) W
  have hz : (bs (big c.toNat 4)).size = 4 := by rw [bs_size, big_length]
  generalize bs (big c.toNat 4) = t at HB HFIN hz
  go_enter Try.func62, Try.ntmps62
  go_wp2_with (first
    | (go_at_call 103; ((with_reducible refine HS.out.mono ?_)); rintro e w1 ⟨rfl, rfl⟩)
    | (go_at_call 102; ((with_reducible refine (HB.out _).mono ?_)); rintro e w1 ⟨rfl, hb1⟩; have HB1 := Lib.hid hb1; clear hb1))
  go_ret
  exact ⟨by rw [HFIN.out]; rfl, HB1.out⟩

set_option maxRecDepth 100000 in
set_option maxHeartbeats 1000000 in
theorem refOpened_any (s : ByteArray) (hs : s.size ≤ 140737488351232) (w : World) :
    Calls Try.prog 65 #[.string s] w fun e w' => e = .returned (.tuple #[.string (bs (openS s.data.toList).1), .int .i64 (openS s.data.toList).2]) ∧ Below w.heap.size w w' := by
  have hl : s.data.toList.length = s.size := rfl
  have HL := Lib.hid hl
  clear hl
  by_cases h4 : s.size < 4
  · have hE : openS s.data.toList = ([], 9) := by rw [openS, HL.out, if_pos h4]
    rw [hE]; clear hE
    go_enter Try.func65, Try.ntmps65
    go_wp2
    go_ret2
    exact ⟨rfl, Below.refl _ _⟩
  · have hsl : s.size - 4 ≤ s.size := by omega
    have h44 : 4 ≤ s.size := by omega
    have hext : s.extract 0 (s.size - 4) = bs (s.data.toList.take (s.size - 4)) := by
      apply ByteArray.ext; apply Array.toList_inj.1; simp [bs, ByteArray.data_extract]
    have HEX := Lib.hid hext
    clear hext
    have HSM : Hid (∀ W : World, Calls Try.prog 104 #[.string (s.extract (s.size - 4) s.size)] W fun e w' => e = .returned (.int .i64 (small (s.data.toList.drop (s.size - 4)))) ∧ Below W.heap.size W w') := fun W => by
      have h := small_any (s.extract (s.size - 4) s.size) (by rw [ByteArray.size_extract]; omega) W
      have e : (s.extract (s.size - 4) s.size).data.toList = s.data.toList.drop (s.size - 4) := by
        simp [ByteArray.data_extract]
        exact List.take_of_length_le (by rw [List.length_drop, HL.out]; omega)
      rw [e] at h; exact h
    have HSU : Hid (∀ W : World, Calls Try.prog 103 #[.string (s.extract 0 (s.size - 4))] W fun e w' => e = .returned (U (sum (s.data.toList.take (s.size - 4)))) ∧ W = w') := fun W => by
      have h := refSum_any (s.extract 0 (s.size - 4)) (by rw [ByteArray.size_extract]; omega) W
      rw [HEX.out, list_bs] at h
      rw [HEX.out]; exact h
    have hiff : small (s.data.toList.drop (s.size - 4)) = (sum (s.data.toList.take (s.size - 4))).toNat ↔ openS s.data.toList = (s.data.toList.take (s.size - 4), 0) := by
      have h := sealed_iff s.data.toList (by rw [HL.out]; omega)
      rw [HL.out] at h
      rw [← h, openS, HL.out, if_neg h4]
      constructor
      · intro e; rw [if_pos e]
      · intro e
        split at e
        · assumption
        · simp at e
    have hno : ¬ openS s.data.toList = (s.data.toList.take (s.size - 4), 0) → openS s.data.toList = ([], 8) := by
      intro h
      rw [openS, HL.out, if_neg h4] at h ⊢
      split
      · rename_i h2; exact absurd (by rw [if_pos h2]) h
      · rfl
    have HW : Hid (wn (sum (s.data.toList.take (s.size - 4))) = ((sum (s.data.toList.take (s.size - 4))).toNat : Int)) := rfl
    generalize hv : small (s.data.toList.drop (s.size - 4)) = v at HSM hiff
    generalize hc : sum (s.data.toList.take (s.size - 4)) = c at HSU hiff HW
    have E3 : Hid (IntKind.i64.wrap (wn c) = wn c) := by
      show IntKind.i64.wrap (wn c) = wn c
      have hc1 := wn_ge c
      have hc2 := wn_lt c
      rw [IntKind.wrap_i64]; omega
    have E2 : Hid (((s.size : Int) - 4).toNat = s.size - 4) := by show ((s.size : Int) - 4).toNat = s.size - 4; omega
    clear hv hc
    by_cases heq : v = c.toNat
    · have hE := hiff.1 heq
      have hq : ((v : Int) == wn c) = true := by rw [HW.out]; simp [heq]
      have hq2 : ((v : Int) != wn c) = false := by rw [HW.out]; simp [heq]
      rw [hE]
      clear hE hiff hno heq HL
      go_enter Try.func65, Try.ntmps65
      go_wp2_with fail
      go_cut [20] (fun v20 W => v20 = .bool false ∧ Below w.heap.size w W)
      case first =>
        have e1 : IntKind.i64.wrap ((s.size : Int) - 4) = (s.size : Int) - 4 := by rw [IntKind.wrap_i64]; omega
        have e3 := E3.out
        go_region_with (first
          | (go_at_call 104; (try rw [E2.out]); ((with_reducible refine (HSM.out _).mono ?_)); rintro e w1 ⟨rfl, hb1⟩; have HB1 := Lib.hid hb1; clear hb1)
          | (go_at_call 103; (try rw [E2.out]); ((with_reducible refine (HSU.out _).mono ?_)); rintro e w1 ⟨rfl, rfl⟩))
        all_goals
          go_wp2_with fail
          go_meet
          exact ⟨rfl, below_of_drew HB1.out⟩
      case rest =>
        obtain ⟨rfl, hb⟩ := hcut
        have HB := Lib.hid hb
        clear hb
        go_wp2_with fail
        go_ret2
        exact ⟨by rw [← HEX.out]; rfl, HB.out⟩
    · have hE := hno (fun h => heq (hiff.2 h))
      have hq : ((v : Int) == wn c) = false := by rw [HW.out]; simp; omega
      have hq2 : ((v : Int) != wn c) = true := by rw [HW.out]; simp; omega
      rw [hE]
      clear hE hiff hno heq HL
      go_enter Try.func65, Try.ntmps65
      go_wp2_with fail
      go_cut [20] (fun v20 W => v20 = .bool true ∧ Below w.heap.size w W)
      case first =>
        have e1 : IntKind.i64.wrap ((s.size : Int) - 4) = (s.size : Int) - 4 := by rw [IntKind.wrap_i64]; omega
        have e3 := E3.out
        go_region_with (first
          | (go_at_call 104; (try rw [E2.out]); ((with_reducible refine (HSM.out _).mono ?_)); rintro e w1 ⟨rfl, hb1⟩; have HB1 := Lib.hid hb1; clear hb1)
          | (go_at_call 103; (try rw [E2.out]); ((with_reducible refine (HSU.out _).mono ?_)); rintro e w1 ⟨rfl, rfl⟩))
        all_goals
          go_wp2_with fail
          go_meet
          exact ⟨rfl, below_of_drew HB1.out⟩
      case rest =>
        obtain ⟨rfl, hb⟩ := hcut
        have HB := Lib.hid hb
        clear hb
        go_wp2_with fail
        go_ret2
        exact ⟨rfl, HB.out⟩

end Go.Proofs.Ytfeddgeihpfjfab
