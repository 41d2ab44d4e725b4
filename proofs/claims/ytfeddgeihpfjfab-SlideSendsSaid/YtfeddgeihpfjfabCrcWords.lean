/- Words of 32 bits as the machine spells them. -/
import Derived.Test.YtfeddgeihpfjfabCrcPure
import Derived.Test.YtfeddgeihpfjfabMem
set_option linter.unusedSimpArgs false
set_option linter.unusedVariables false
namespace Go.Proofs.Ytfeddgeihpfjfab
open Go.RowKit Crc

/-- A word as a number (a plain name: the walk doesn't look into it). -/
def wn (c : W) : Int := (c.toNat : Int)
/-- A word as a Go value. -/
abbrev U (c : W) : Value := .int .u32 (wn c)
theorem wn_ge (c : W) : 0 ≤ wn c := by unfold wn; omega
theorem wn_lt (c : W) : wn c < 4294967296 := by unfold wn; have := c.isLt; omega
theorem wn_inj {a b : W} (h : wn a = wn b) : a = b := by unfold wn at h; apply BitVec.eq_of_toNat_eq; omega
theorem wrap_word (c : W) : IntKind.u32.wrap (wn c) = wn c := by rw [IntKind.wrap_u32]; have := wn_lt c; have := wn_ge c; omega
theorem xor_word (a b : W) : bits .xor .u32 (wn a) (wn b) = wn (a ^^^ b) := by
  show IntKind.u32.wrap ((BitVec.ofInt 32 (a.toNat : Int) ^^^ BitVec.ofInt 32 (b.toNat : Int)).toNat : Int) = _
  rw [BitVec.ofInt_natCast, BitVec.ofInt_natCast, BitVec.ofNat_toNat, BitVec.ofNat_toNat, BitVec.setWidth_eq, BitVec.setWidth_eq]
  exact wrap_word _
theorem shr_word (a : W) (n : Nat) : wn (a >>> n) = wn a / ((2 ^ n : Nat) : Int) := by
  unfold wn; rw [BitVec.toNat_ushiftRight, Nat.shiftRight_eq_div_pow]; rfl
theorem shr1_word (a : W) : wn a / (2 : Int) = wn (a >>> 1) := (shr_word a 1).symm
theorem shr8_word (a : W) : wn a / (256 : Int) = wn (a >>> 8) := (shr_word a 8).symm
theorem bit_word (a : W) : wn a % 2 = if a.getLsbD 0 then 1 else 0 := by
  have h : a.getLsbD 0 = decide (a.toNat % 2 = 1) := by rw [BitVec.getLsbD, Nat.testBit_zero]
  rw [h]; unfold wn
  by_cases h2 : a.toNat % 2 = 1
  · simp [h2]; omega
  · simp [h2]; omega
theorem getLsbD_shr (a : W) (n : Nat) : a.getLsbD n = (a >>> n).getLsbD 0 := by simp
theorem and1_int (x : Int) (h0 : 0 ≤ x) (h1 : x < 4294967296) : bits .and .u32 x 1 = x % 2 :=
  bits_mask .u32 32 (by decide) (fun n h0 h1 => by rw [IntKind.wrap_u32]; omega) 1 (by decide) x h0 (by omega)
theorem and1_word (a : W) : bits .and .u32 (wn a) 1 = if a.getLsbD 0 then 1 else 0 := by
  rw [← bit_word]; exact and1_int _ (wn_ge a) (wn_lt a)
theorem wn_const (n : Nat) (hn : n < 4294967296) : wn (BitVec.ofNat 32 n) = n := by
  unfold wn; rw [BitVec.toNat_ofNat, Nat.mod_eq_of_lt hn]
theorem poly_nat : wn poly = 3988292384 := rfl
theorem xor_poly (a : W) : bits .xor .u32 (wn a) 3988292384 = wn (a ^^^ poly) := by
  have := xor_word a poly
  rw [poly_nat] at this
  exact this
/-- A byte's bit, as the walk spells it. -/
theorem bitw_word256 : ∀ (i : Fin 256) (j : Fin 8), bits .and .u8 (((UInt8.ofNat i.val).toNat : Int) / 2 ^ j.val) 1 % 4294967296 = wn (bitw (UInt8.ofNat i.val) j.val) := by decide +kernel
theorem bitw_word (b : UInt8) (j : Nat) (hj : j < 8) : bits .and .u8 ((b.toNat : Int) / 2 ^ j) 1 % 4294967296 = wn (bitw b j) := by rw [byte_of b]; exact bitw_word256 _ ⟨j, hj⟩
theorem not_word (c : W) : 4294967295 - wn c = wn (~~~c) := by
  unfold wn; rw [BitVec.toNat_not]; have := c.isLt; omega
theorem not_bits (c : W) : bits .xor .u32 4294967295 (wn c) = wn (~~~c) := by
  have h := xor_word 4294967295#32 c
  rw [wn_const 4294967295 (by omega)] at h
  have e : 4294967295#32 ^^^ c = ~~~c := by rw [show (4294967295#32 : W) = BitVec.allOnes 32 from rfl, BitVec.allOnes_xor]
  rw [e] at h; exact h
/-- The place in the table, as the walk spells it. -/
def tabAt (c : W) (b : UInt8) : Nat := ((c ^^^ wd b) &&& 255#32).toNat
theorem tabAt_lt (c : W) (b : UInt8) : tabAt c b < 256 := by
  unfold tabAt; rw [BitVec.toNat_and]
  exact Nat.lt_of_le_of_lt Nat.and_le_right (by decide)
theorem tabAt_eq (c : W) (b : UInt8) : tabAt c b = (c.toNat % 256) ^^^ b.toNat := by
  unfold tabAt
  rw [BitVec.toNat_and, BitVec.toNat_xor, show (255#32).toNat = 2 ^ 8 - 1 from rfl, Nat.and_two_pow_sub_one_eq_mod, Nat.xor_mod_two_pow]
  have hb := b.toNat_lt
  rw [wd, BitVec.toNat_ofNat, Nat.mod_eq_of_lt (show b.toNat < 2 ^ 32 by omega), Nat.mod_eq_of_lt (show b.toNat < 2 ^ 8 by omega)]
theorem tab_word (c : W) (b : UInt8) : bits .xor .u8 (wn c % 256) (b.toNat : Int) = (tabAt c b : Int) := by
  have h1 : wn c % 256 = ((c.toNat % 256 : Nat) : Int) := by unfold wn; omega
  rw [h1, tabAt_eq]
  show IntKind.u8.wrap ((BitVec.ofInt 8 ((c.toNat % 256 : Nat) : Int) ^^^ BitVec.ofInt 8 (b.toNat : Int)).toNat : Int) = _
  have hb := b.toNat_lt
  rw [BitVec.ofInt_natCast, BitVec.ofInt_natCast, BitVec.toNat_xor, BitVec.toNat_ofNat, BitVec.toNat_ofNat, Nat.mod_mod, Nat.mod_eq_of_lt (show b.toNat < 2 ^ 8 by omega), IntKind.wrap_u8]
  have := Nat.xor_lt_two_pow (n := 8) (show c.toNat % 256 < 2 ^ 8 by omega) (show b.toNat < 2 ^ 8 by omega)
  omega
theorem shr_int (a : W) (j : Nat) : wn a / 2 ^ j = wn (a >>> j) := by
  rw [shr_word]; norm_cast
theorem bit_mod (a : W) (j : Nat) : (wn a / 2 ^ j) % 2 = if a.getLsbD j then 1 else 0 := by
  rw [shr_int, bit_word, ← getLsbD_shr]
theorem bit_tmod (a : W) (j : Nat) : (wn a / 2 ^ j).tmod 2 = if a.getLsbD j then 1 else 0 := by
  rw [Int.tmod_eq_emod_of_nonneg (by rw [shr_int]; exact wn_ge _), bit_mod]
theorem bit_and (a : W) (j : Nat) : bits .and .u32 (wn a / 2 ^ j) 1 = if a.getLsbD j then 1 else 0 := by
  rw [shr_int, and1_word, ← getLsbD_shr]
end Go.Proofs.Ytfeddgeihpfjfab
