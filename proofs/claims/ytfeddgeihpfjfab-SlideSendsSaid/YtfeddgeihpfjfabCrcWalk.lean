/- The contracts of package crc, and of the reference's CRC. -/
import Derived.Test.YtfeddgeihpfjfabProg
import Derived.Test.YtfeddgeihpfjfabCrcWords
import Derived.Deep.QuietTactic
import Derived.BigQuiet
import Derived.Lib.Hide
set_option linter.unusedSimpArgs false
set_option linter.unusedVariables false
namespace Go.Proofs.Ytfeddgeihpfjfab
open Go.RowKit Crc

theorem half_any (c : W) (w : World) :
    Calls Try.prog 129 #[U c] w fun e w' => e = .returned (U (half c)) ∧ w = w' := by
  have h := and1_word c
  have hb := wn_lt c
  have hb0 := wn_ge c
  cases hc : c.getLsbD 0 with
  | true =>
    have HR : wn (half c) = bits .xor .u32 (wn c / 2) 3988292384 := by rw [shr1_word, xor_poly, half, hc]; rfl
    simp only [hc, if_true] at h
    show Calls _ _ #[.int .u32 (wn c)] w fun e w' => e = .returned (.int .u32 (wn (half c))) ∧ w = w'
    rw [HR]
    clear hc HR
    go_enter Try.func129, Try.ntmps129
    go_wp2
    go_ret
    exact ⟨rfl, rfl⟩
  | false =>
    have HR : wn (half c) = wn c / 2 := by rw [shr1_word, half, hc]; rfl
    simp only [hc, Bool.false_eq_true, if_false] at h
    show Calls _ _ #[.int .u32 (wn c)] w fun e w' => e = .returned (.int .u32 (wn (half c))) ∧ w = w'
    rw [HR]
    clear hc HR
    go_enter Try.func129, Try.ntmps129
    go_wp2
    go_ret
    exact ⟨rfl, rfl⟩

theorem shift_any (c : W) (w : World) :
    Calls Try.prog 119 #[U c] w fun e w' => e = .returned (U (half c)) ∧ w = w' := by
  have h := bit_word c
  have hb := wn_lt c
  have hb0 := wn_ge c
  cases hc : c.getLsbD 0 with
  | true =>
    have HR : wn (half c) = bits .xor .u32 (wn c / 2) 3988292384 := by rw [shr1_word, xor_poly, half, hc]; rfl
    simp only [hc, if_true] at h
    show Calls _ _ #[.int .u32 (wn c)] w fun e w' => e = .returned (.int .u32 (wn (half c))) ∧ w = w'
    rw [HR]
    clear hc HR
    go_enter Try.func119, Try.ntmps119
    go_wp2
    go_ret
    exact ⟨rfl, rfl⟩
  | false =>
    have HR : wn (half c) = wn c / 2 := by rw [shr1_word, half, hc]; rfl
    simp only [hc, Bool.false_eq_true, if_false] at h
    show Calls _ _ #[.int .u32 (wn c)] w fun e w' => e = .returned (.int .u32 (wn (half c))) ∧ w = w'
    rw [HR]
    clear hc HR
    go_enter Try.func119, Try.ntmps119
    go_wp2
    go_ret
    exact ⟨rfl, rfl⟩

set_option maxHeartbeats 1000000 in
theorem refSum_any (s : ByteArray) (hs : s.size ≤ 9223372036854775807) (w : World) :
    Calls Try.prog 103 #[.string s] w fun e w' => e = .returned (U (sum s.data.toList)) ∧ w = w' := by
  go_enter Try.func103, Try.ntmps103
  go_wp2
  go_loop [3, 8] (fun c i => ∃ k : Nat, k ≤ s.size ∧ i = .int .i64 k ∧ c = U (reg 0xffffffff#32 (s.data.toList.take k))) (fun _ i => s.size - (intOf i).toNat)
  case atStart => exact ⟨0, Nat.zero_le _, rfl, rfl⟩
  case round =>
    obtain ⟨k, hk, rfl, rfl⟩ := hrel
    generalize hc0 : reg 0xffffffff#32 (s.data.toList.take k) = c
    have HC := Lib.hid hc0
    clear hc0
    by_cases hlt : k < s.size
    · go_wp2
      go_loop [3, 11] (fun c' i => ∃ (j : Nat) (x : W), j ≤ 8 ∧ i = .int .i64 j ∧ c' = U x ∧ feed (8 - j) j x s[k] = feed 8 0 c s[k]) (fun _ i => 8 - (intOf i).toNat)
      case atStart => exact ⟨0, c, by omega, rfl, rfl, rfl⟩
      case round =>
        obtain ⟨j, x, hj, rfl, rfl, hf⟩ := hrel
        have HF := Lib.hid hf
        clear hf
        by_cases hlt2 : j < 8
        · have hbw := bitw_word s[k] j hlt2
          have hxw := xor_word x (bitw s[k] j)
          go_wp2_with (go_at_call 119; ((with_reducible refine (shift_any _ _).mono ?_)); rintro e w1 ⟨rfl, rfl⟩)
          go_round
          case rel =>
            refine ⟨j + 1, half (x ^^^ bitw s[k] j), by omega, by go_num, rfl, ?_⟩
            rw [← HF.out, show 8 - j = 8 - (j + 1) + 1 by omega]; rfl
          case measure => simp [intOf]; omega
        · obtain rfl : j = 8 := by omega
          have hxe : x = Crc.step c s[k] := by rw [← feed_step, ← HF.out]; rfl
          clear HF
          subst hxe
          go_wp2
          go_round
          case rel =>
            refine ⟨k + 1, by omega, by go_num, ?_⟩
            rw [List.take_succ_eq_append_getElem (by simpa using hlt), reg_snoc, HC.out]; rfl
          case measure => simp [intOf]; omega
    · obtain rfl : k = s.size := by omega
      have hbd := wn_lt c
      have hbd0 := wn_ge c
      have hnw := not_word c
      go_wp2
      go_ret
      refine ⟨?_, rfl⟩
      have hc := HC.out
      rw [List.take_of_length_le (by simp)] at hc
      rw [sum, hc]; rfl
end Go.Proofs.Ytfeddgeihpfjfab
