/- Frames: what both sides refuse. -/
import Derived.Test.YtfeddgeihpfjfaaProg
import Derived.Test.YtfeddgeihpfjfaaMem
import Derived.Deep.QuietTactic
import Derived.BigQuiet
import Derived.Lib.Hide
set_option linter.unusedSimpArgs false
set_option linter.unusedVariables false
namespace Go.Proofs.Ytfeddgeihpfjfaa
open Go.RowKit

theorem and1_i64 (x : Int) (h0 : 0 ≤ x) (h1 : x ≤ 9223372036854775807) : bits .and .i64 x 1 = x % 2 :=
  bits_mask .i64 63 (by decide) (fun n h0 h1 => by rw [IntKind.wrap_i64]; omega) 1 (by decide) x h0 (by omega)

/-- The address of a group. -/
def groupB (n : Int) : Bool := decide (0 ≤ n) && (n / 1099511627776 % 2 == 1)

theorem group_any (n : Int) (hn : I64 n) (w : World) :
    Calls Try.prog 133 #[.int .i64 n] w fun e w' => e = .returned (.bool (groupB n)) ∧ w = w' := by
  unfold groupB
  by_cases c : 0 ≤ n
  · obtain ⟨m, rfl⟩ := Int.eq_ofNat_of_zero_le c
    have e1 := and1_i64 ((m : Int) / 1099511627776) (by omega) (by have := hn.2; omega)
    go_enter Try.func133, Try.ntmps133
    go_wp2
    go_ret
    refine ⟨congrArg Ending.returned (congrArg Value.bool ?_), rfl⟩
    show ((m : Int) / 1099511627776 % 2 == 1) = _
    rw [decide_eq_true c]; rfl
  · go_enter Try.func133, Try.ntmps133
    go_wp2
    go_ret
    refine ⟨congrArg Ending.returned (congrArg Value.bool ?_), rfl⟩
    rw [decide_eq_false (by omega : ¬ 0 ≤ n)]; rfl

theorem isGroup_any (n : Int) (hn : I64 n) (w : World) :
    Calls Try.prog 108 #[.int .i64 n] w fun e w' => e = .returned (.bool (groupB n)) ∧ w = w' := by
  unfold groupB
  by_cases c : 0 < n
  · obtain ⟨m, rfl⟩ := Int.eq_ofNat_of_zero_le (show 0 ≤ n by omega)
    have e1 : wrap64 ((m : Int) / 1099511627776) = (m : Int) / 1099511627776 := by unfold wrap64; have := hn.2; omega
    go_enter Try.func108, Try.ntmps108
    go_wp2
    go_ret
    refine ⟨congrArg Ending.returned (congrArg Value.bool ?_), rfl⟩
    show ((m : Int) / 1099511627776 % 2 == 1) = _
    rw [decide_eq_true (show (0 : Int) ≤ m by omega)]; rfl
  · go_enter Try.func108, Try.ntmps108
    go_wp2
    go_ret
    refine ⟨?_, rfl⟩
    show Ending.returned (Value.bool false) = _
    by_cases h : n = 0
    · subst h; rfl
    · rw [decide_eq_false (by omega : ¬ 0 ≤ n)]; rfl

/-- What a frame is refused for. -/
def frameE (d s t y : Int) (b : Nat) : Int :=
  if d < 0 ∨ 281474976710655 < d ∨ s < 0 ∨ 281474976710655 < s ∨ groupB s = true then 1
  else if t < 0 ∨ 4094 < t ∨ y < 0 ∨ 65535 < y ∨ y = 33024 then 10
  else if 1500 < b then 2 else 0

set_option maxHeartbeats 1000000 in
theorem frameCheck_any (d s t y : Int) (b : ByteArray) (hs : I64 s) (w : World) :
    Calls Try.prog 102 #[.agg #[.int .i64 d, .int .i64 s, .int .i64 t, .int .i64 y, .string b]] w fun e w' => e = .returned (.int .i64 (frameE d s t y b.size)) ∧ Below w.heap.size w w' := by
  have HG : Hid (∀ W : World, Calls Try.prog 133 #[.int .i64 s] W fun e w' => e = .returned (.bool (groupB s)) ∧ W = w') := fun W => group_any s hs W
  have HE : Hid (frameE d s t y b.size = if d < 0 ∨ 281474976710655 < d ∨ s < 0 ∨ 281474976710655 < s ∨ groupB s = true then 1 else if t < 0 ∨ 4094 < t ∨ y < 0 ∨ 65535 < y ∨ y = 33024 then 10 else if 1500 < b.size then 2 else 0) := rfl
  generalize frameE d s t y b.size = v at HE ⊢
  generalize groupB s = g at HG HE
  rcases Bool.eq_false_or_eq_true g with rfl | rfl
  all_goals
    go_enter Try.func102, Try.ntmps102
    go_wp2_with (go_at_call 133; ((with_reducible refine (HG.out _).mono ?_)); rintro e w1 ⟨rfl, rfl⟩)
    all_goals
      go_ret
      refine ⟨?_, (Below.refl _ _).alloc (Nat.le_refl _) _⟩
      refine congrArg Ending.returned (congrArg (Value.int .i64) ?_)
      have h := HE.out
      clear HE HG
      simp only [reduceCtorEq, or_true, or_false, if_true, beq_iff_eq, beq_eq_false_iff_ne] at *
      (repeat' split at h) <;> omega

set_option maxHeartbeats 1000000 in
theorem frameErr_any (d s t y : Int) (b : ByteArray) (hs : I64 s) (w : World) :
    Calls Try.prog 117 #[.agg #[.int .i64 d, .int .i64 s, .int .i64 t, .int .i64 y, .string b]] w fun e w' => e = .returned (.int .i64 (frameE d s t y b.size)) ∧ Below w.heap.size w w' := by
  have HG : Hid (∀ W : World, Calls Try.prog 108 #[.int .i64 s] W fun e w' => e = .returned (.bool (groupB s)) ∧ W = w') := fun W => isGroup_any s hs W
  have HE : Hid (frameE d s t y b.size = if d < 0 ∨ 281474976710655 < d ∨ s < 0 ∨ 281474976710655 < s ∨ groupB s = true then 1 else if t < 0 ∨ 4094 < t ∨ y < 0 ∨ 65535 < y ∨ y = 33024 then 10 else if 1500 < b.size then 2 else 0) := rfl
  generalize frameE d s t y b.size = v at HE ⊢
  generalize groupB s = g at HG HE
  rcases Bool.eq_false_or_eq_true g with rfl | rfl
  all_goals
    go_enter Try.func117, Try.ntmps117
    go_wp2_with (go_at_call 108; ((with_reducible refine (HG.out _).mono ?_)); rintro e w1 ⟨rfl, rfl⟩)
    all_goals
      go_ret
      refine ⟨?_, (Below.refl _ _).alloc (Nat.le_refl _) _⟩
      refine congrArg Ending.returned (congrArg (Value.int .i64) ?_)
      have h := HE.out
      clear HE HG
      simp only [reduceCtorEq, or_true, or_false, if_true, beq_iff_eq, beq_eq_false_iff_ne] at *
      (repeat' split at h) <;> omega
end Go.Proofs.Ytfeddgeihpfjfaa
