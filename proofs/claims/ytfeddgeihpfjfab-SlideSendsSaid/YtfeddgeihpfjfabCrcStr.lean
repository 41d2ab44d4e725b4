/- Strings with their checksums, as lists of bytes. No program here. -/
import Derived.Test.YtfeddgeihpfjfabCrcPure
set_option linter.unusedSimpArgs false
set_option linter.unusedVariables false
namespace Go.Proofs.Ytfeddgeihpfjfab.Crc

/-- A number in k bytes, the most significant one first. -/
def big : Nat → Nat → List UInt8
  | _, 0 => []
  | n, k + 1 => big (n / 256) k ++ [UInt8.ofNat (n % 256)]
/-- The number of bytes. -/
def small (l : List UInt8) : Nat := l.foldl (fun n b => 256 * n + b.toNat) 0
theorem big_length (n k : Nat) : (big n k).length = k := by
  induction k generalizing n with
  | zero => rfl
  | succ k ih => simp [big, ih]
theorem small_snoc (l : List UInt8) (b : UInt8) : small (l ++ [b]) = 256 * small l + b.toNat := by simp [small]
theorem small_big (n k : Nat) (h : n < 256 ^ k) : small (big n k) = n := by
  induction k generalizing n with
  | zero => simp at h; subst h; rfl
  | succ k ih =>
    rw [big, small_snoc, ih (n / 256) (by rw [Nat.pow_succ] at h; omega)]
    have : (UInt8.ofNat (n % 256)).toNat = n % 256 := by simp
    rw [this]; omega
theorem small_lt (l : List UInt8) : small l < 256 ^ l.length := by
  have h : ∀ l : List UInt8, small l.reverse < 256 ^ l.length := by
    intro l
    induction l with
    | nil => simp [small]
    | cons b l ih =>
      rw [List.reverse_cons, small_snoc, List.length_cons, Nat.pow_succ]
      have := b.toNat_lt
      omega
  have := h l.reverse
  simpa using this
theorem small_inj : ∀ (l m : List UInt8), l.length = m.length → small l = small m → l = m := by
  have h : ∀ (l m : List UInt8), l.length = m.length → small l.reverse = small m.reverse → l = m := by
    intro l
    induction l with
    | nil => intro m hl _; exact (List.eq_nil_of_length_eq_zero (by simpa using hl.symm)).symm
    | cons b l ih =>
      intro m hl hs
      cases m with
      | nil => simp at hl
      | cons c m =>
        rw [List.reverse_cons, List.reverse_cons, small_snoc, small_snoc] at hs
        have hb := b.toNat_lt
        have hc := c.toNat_lt
        have e1 : b.toNat = c.toNat := by omega
        have e2 : small l.reverse = small m.reverse := by omega
        rw [ih m (by simpa using hl) e2, UInt8.toNat_inj.1 e1]
  intro l m hl hs
  have := h l.reverse m.reverse (by simpa using hl) (by simpa using hs)
  simpa using this

/-- A string followed by its checksum. -/
def sealed (l : List UInt8) : List UInt8 := l ++ big (sum l).toNat 4
theorem sealed_length (l : List UInt8) : (sealed l).length = l.length + 4 := by simp [sealed, big_length]
/-- What a sealed string held: none of a string that isn't sealed. -/
theorem sealed_iff (l : List UInt8) (h : 4 ≤ l.length) : sealed (l.take (l.length - 4)) = l ↔ small (l.drop (l.length - 4)) = (sum (l.take (l.length - 4))).toNat := by
  have hs : (sum (l.take (l.length - 4))).toNat < 256 ^ 4 := (sum (l.take (l.length - 4))).isLt
  constructor
  · intro e
    have : l.drop (l.length - 4) = big (sum (l.take (l.length - 4))).toNat 4 := by
      have e2 := congrArg (List.drop (l.length - 4)) e
      rw [sealed, List.drop_left' (by simp)] at e2
      exact e2.symm
    rw [this, small_big _ _ hs]
  · intro e
    have : l.drop (l.length - 4) = big (sum (l.take (l.length - 4))).toNat 4 := by
      apply small_inj
      · rw [big_length]; simp; omega
      · rw [small_big _ _ hs, e]
    rw [sealed, ← this, List.take_append_drop]
/-- The bytes of a word. -/
theorem big4 (n : Nat) : big n 4 = [UInt8.ofNat (n / 16777216 % 256), UInt8.ofNat (n / 65536 % 256), UInt8.ofNat (n / 256 % 256), UInt8.ofNat (n % 256)] := by
  simp [big, Nat.div_div_eq_div_mul]

/-- The reference's way to join. -/
def rjoinL : Nat → W → (Nat → W) → Nat → W
  | 0, a, _, _ => a
  | f + 1, a, m, n => if n = 0 then a else rjoinL f (if n % 2 = 1 then apply m 32 a 0#32 else a) (fun i => apply m 32 (m i) 0#32) (n / 2)
theorem join_eq : ∀ (f n : Nat) (a p : W) (m : Nat → W), (∀ i, i < 32 → m i = times (1#32 <<< i) p) → joinL f a p n = rjoinL f a m n := by
  intro f
  induction f with
  | zero => intros; rfl
  | succ f ih =>
    intro n a p m hm
    have hap : ∀ v, apply m 32 v 0#32 = times v p := fun v => apply_lin (fun v => times v p) (lin_times_a p) m hm v
    rw [joinL, rjoinL]
    split
    · rfl
    · rw [hap a]
      refine ih (n / 2) _ (times p p) _ (fun i hi => ?_)
      rw [hap, hm i hi, times_assoc]
end Go.Proofs.Ytfeddgeihpfjfab.Crc
