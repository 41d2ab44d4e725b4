/- Products, and the program's way to join. -/
import Derived.Test.YtfeddgeihpfjfaaCrcWalk
import Derived.Test.YtfeddgeihpfjfaaCrcStr
set_option linter.unusedSimpArgs false
set_option linter.unusedVariables false
namespace Go.Proofs.Ytfeddgeihpfjfaa
open Go.RowKit Crc

theorem times_any (a b : W) (w : World) :
    Calls Try.prog 93 #[U a, U b] w fun e w' => e = .returned (U (times a b)) ∧ w = w' := by
  go_enter Try.func93, Try.ntmps93
  go_wp2
  go_loop [1, 5, 6] (fun b' o k => ∃ (j : Nat) (x y : W), j ≤ 32 ∧ k = .int .i64 ((j : Int) - 1) ∧ b' = U x ∧ o = U y ∧ timesL j a x y = times a b) (fun _ _ k => (intOf k + 1).toNat)
  case atStart => exact ⟨32, b, 0#32, by omega, rfl, rfl, rfl, rfl⟩
  case round =>
    obtain ⟨j, x, y, hj, rfl, rfl, rfl, hf⟩ := hrel
    have HF := Lib.hid hf
    clear hf
    by_cases h0 : j = 0
    · subst h0
      go_wp2
      go_ret
      exact ⟨by rw [← HF.out]; rfl, rfl⟩
    · obtain ⟨j, rfl⟩ : ∃ i, j = i + 1 := ⟨j - 1, by omega⟩
      rw [show (((j + 1 : Nat) : Int) - 1) = (j : Int) by omega]
      have hb := bit_and a j
      have hx := xor_word y x
      cases hc : a.getLsbD j with
      | true =>
        simp only [hc, if_true] at hb
        have HT : Hid (timesL j a (half x) (y ^^^ x) = times a b) := by show _ = _; rw [← HF.out, timesL, hc]; try rfl
        clear hc HF
        go_wp2_with (go_at_call 132; ((with_reducible refine (half_any _ _).mono ?_)); rintro e w1 ⟨rfl, rfl⟩)
        go_round
        case rel => exact ⟨j, half x, y ^^^ x, by omega, rfl, rfl, rfl, HT.out⟩
        case measure => simp [intOf]
      | false =>
        simp only [hc, Bool.false_eq_true, if_false] at hb
        have HT : Hid (timesL j a (half x) y = times a b) := by show _ = _; rw [← HF.out, timesL, hc]; try rfl
        clear hc HF
        go_wp2_with (go_at_call 132; ((with_reducible refine (half_any _ _).mono ?_)); rintro e w1 ⟨rfl, rfl⟩)
        go_round
        case rel => exact ⟨j, half x, y, by omega, rfl, rfl, rfl, HT.out⟩
        case measure => simp [intOf]

/-- The program's way to join, with as many rounds as it takes. -/
def joinW (a b : W) (n : Int) : W := joinL n.toNat a (1#32 <<< 23) n.toNat ^^^ b
theorem joinL_more : ∀ (f g n : Nat) (a p : W), n ≤ f → n ≤ g → joinL f a p n = joinL g a p n := by
  intro f
  induction f with
  | zero =>
    intro g n a p h1 h2
    obtain rfl : n = 0 := by omega
    cases g <;> simp [joinL]
  | succ f ih =>
    intro g n a p h1 h2
    by_cases hn : n = 0
    · subst hn; cases g <;> simp [joinL]
    · obtain ⟨g, rfl⟩ : ∃ m, g = m + 1 := ⟨g - 1, by omega⟩
      rw [joinL, joinL, if_neg hn, if_neg hn]
      exact ih g (n / 2) _ _ (by omega) (by omega)
theorem joinL_step (m : Nat) (hm : 0 < m) (x p : W) : joinL m x p m = joinL (m / 2) (if m % 2 = 1 then times x p else x) (times p p) (m / 2) := by
  obtain ⟨k, rfl⟩ : ∃ k, m = k + 1 := ⟨m - 1, by omega⟩
  conv => lhs; rw [joinL, if_neg (by omega)]
  exact joinL_more _ _ _ _ _ (by omega) (by omega)

theorem join_any (a b : W) (n : Int) (hn : n ≤ 9223372036854775807) (w : World) :
    Calls Try.prog 30 #[U a, U b, .int .i64 n] w fun e w' => e = .returned (U (joinW a b n)) ∧ w = w' := by
  by_cases h : n ≤ 0
  · have hJ : joinW a b n = a ^^^ b := by rw [joinW, show n.toNat = 0 by omega]; rfl
    have hx := xor_word a b
    rw [hJ]
    clear hJ
    go_enter Try.func30, Try.ntmps30
    go_wp2
    go_loop [0, 2, 7] (fun x i p => x = U a ∧ i = .int .i64 n) (fun _ _ _ => 0)
    case atStart => exact ⟨rfl, rfl⟩
    case round =>
      obtain ⟨rfl, rfl⟩ := hrel
      go_wp2
      go_ret
      exact ⟨rfl, rfl⟩
  · obtain ⟨m, rfl⟩ := Int.eq_ofNat_of_zero_le (show 0 ≤ n by omega)
    have HJ : Hid (joinL m a (1#32 <<< 23) m ^^^ b = joinW a b m) := rfl
    generalize joinW a b m = J at HJ ⊢
    go_enter Try.func30, Try.ntmps30
    go_wp2
    go_loop [0, 2, 7] (fun x i p => ∃ (k : Nat) (x' p' : W), (k : Int) ≤ 9223372036854775807 ∧ x = U x' ∧ i = .int .i64 k ∧ p = U p' ∧ joinL k x' p' k ^^^ b = J) (fun _ i _ => (intOf i).toNat)
    case atStart => exact ⟨m, a, 1#32 <<< 23, hn, rfl, rfl, rfl, HJ.out⟩
    case round =>
      obtain ⟨k, x, p, hk, rfl, rfl, rfl, hf⟩ := hrel
      have HF := Lib.hid hf
      clear hf HJ
      by_cases hk0 : k = 0
      · subst hk0
        have hx := xor_word x b
        go_wp2
        go_ret
        exact ⟨by rw [← HF.out]; rfl, rfl⟩
      · have HT : Hid (joinL (k / 2) (if k % 2 = 1 then times x p else x) (times p p) (k / 2) ^^^ b = J) := by
          show _ = _
          rw [← joinL_step k (by omega)]; exact HF.out
        clear HF
        by_cases hodd : k % 2 = 1
        · have hq : ((k : Int) % 2 == 1) = true := by simp; omega
          have HT2 : Hid (joinL (k / 2) (times x p) (times p p) (k / 2) ^^^ b = J) := by have := HT.out; rwa [if_pos hodd] at this
          clear HT hodd
          go_wp2_with (go_at_call 93; ((with_reducible refine (times_any _ _ _).mono ?_)); rintro e w1 ⟨rfl, rfl⟩)
          go_round
          case rel => exact ⟨k / 2, _, _, by omega, rfl, by go_num, rfl, HT2.out⟩
          case measure => simp [intOf]; omega
        · have hq : ((k : Int) % 2 == 1) = false := by simp; omega
          have HT2 : Hid (joinL (k / 2) x (times p p) (k / 2) ^^^ b = J) := by have := HT.out; rwa [if_neg hodd] at this
          clear HT hodd
          go_wp2_with (go_at_call 93; ((with_reducible refine (times_any _ _ _).mono ?_)); rintro e w1 ⟨rfl, rfl⟩)
          go_round
          case rel => exact ⟨k / 2, _, _, by omega, rfl, by go_num, rfl, HT2.out⟩
          case measure => simp [intOf]; omega
end Go.Proofs.Ytfeddgeihpfjfaa
