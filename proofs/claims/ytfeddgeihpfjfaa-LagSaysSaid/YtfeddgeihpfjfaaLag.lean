/- Weights of members. -/
import Derived.Test.YtfeddgeihpfjfaaCrcTab
import Derived.Test.YtfeddgeihpfjfaaCrcWalk
import Derived.Test.YtfeddgeihpfjfaaTag
set_option linter.unusedSimpArgs false
set_option linter.unusedVariables false
namespace Go.Proofs.Ytfeddgeihpfjfaa
open Go.RowKit Crc

/-- The weight of a member for a flow whose sum is s. -/
def mw (m : Int) : W := BitVec.ofInt 32 (m + 1) * 2654435761#32
def mix1 (x : W) : W := (x ^^^ x >>> 16) * 2246822507#32
def mix2 (x : W) : W := (x ^^^ x >>> 13) * 3266489909#32
def wgt (s : W) (m : Int) : W := mix2 (mix1 (s ^^^ mw m)) ^^^ mix2 (mix1 (s ^^^ mw m)) >>> 16

theorem mul_word (a b : W) : wn (a * b) = wn a * wn b % 4294967296 := by
  unfold wn; rw [BitVec.toNat_mul, show (2 : Nat) ^ 32 = 4294967296 by decide, Int.natCast_emod, Int.natCast_mul]; rfl
theorem ofInt_word (x : Int) : wn (BitVec.ofInt 32 x) = x % 4294967296 := by
  unfold wn; rw [BitVec.toNat_ofInt]; have := Int.emod_nonneg x (show (4294967296 : Int) ≠ 0 by decide); show (((x % 4294967296).toNat : Nat) : Int) = _; omega
theorem k0 : wn 2654435761#32 = 2654435761 := rfl
theorem k1 : wn 2246822507#32 = 2246822507 := rfl
theorem k2 : wn 3266489909#32 = 3266489909 := rfl
theorem m0 (m : Int) : wrap64 (m + 1) % 4294967296 * 2654435761 % 4294967296 = wn (mw m) := by
  unfold mw; rw [mul_word, ofInt_word, k0]
  have : wrap64 (m + 1) % 4294967296 = (m + 1) % 4294967296 := by unfold wrap64; omega
  rw [this]
theorem m1 (a : W) : wn a * 2246822507 % 4294967296 = wn (a * 2246822507#32) := by rw [mul_word, k1]
theorem m2 (a : W) : wn a * 3266489909 % 4294967296 = wn (a * 3266489909#32) := by rw [mul_word, k2]
theorem h16 (a : W) : wn a / (65536 : Int) = wn (a >>> 16) := (shr_word a 16).symm
theorem h13 (a : W) : wn a / (8192 : Int) = wn (a >>> 13) := (shr_word a 13).symm

theorem u64_word (a : W) : IntKind.u64.wrap (wn a) = wn a := by rw [wrap_u64]; have := wn_ge a; have := wn_lt a; omega
theorem xor64_word (a b : W) : bits .xor .u64 (wn a) (wn b) = wn (a ^^^ b) := by
  show IntKind.u64.wrap ((BitVec.ofInt 64 (a.toNat : Int) ^^^ BitVec.ofInt 64 (b.toNat : Int)).toNat : Int) = _
  have ha := a.isLt
  have hb := b.isLt
  rw [BitVec.ofInt_natCast, BitVec.ofInt_natCast, BitVec.toNat_xor, BitVec.toNat_ofNat, BitVec.toNat_ofNat, Nat.mod_eq_of_lt (by omega), Nat.mod_eq_of_lt (by omega), ← BitVec.toNat_xor]
  exact u64_word _
theorem n0 (m : Int) : (IntKind.u64.wrap ((IntKind.u64.wrap (IntKind.u64.wrap m + 1)).tmod 4294967296 * 2654435761)).tmod 4294967296 = wn (mw m) := by
  unfold mw; rw [mul_word, ofInt_word, k0, wrap_u64, wrap_u64, wrap_u64, Int.tmod_eq_emod_of_nonneg (by omega), Int.tmod_eq_emod_of_nonneg (by omega)]
  omega
theorem n1 (a : W) : (IntKind.u64.wrap (wn a * 2246822507)).tmod 4294967296 = wn (a * 2246822507#32) := by
  rw [mul_word, k1, wrap_u64, Int.tmod_eq_emod_of_nonneg (by omega)]; omega
theorem n2 (a : W) : (IntKind.u64.wrap (wn a * 3266489909)).tmod 4294967296 = wn (a * 3266489909#32) := by
  rw [mul_word, k2, wrap_u64, Int.tmod_eq_emod_of_nonneg (by omega)]; omega
theorem g16 (a : W) : IntKind.u64.wrap ((wn a).tdiv (65536 : Int)) = wn (a >>> 16) := by
  rw [Int.tdiv_eq_ediv_of_nonneg (wn_ge a), h16, u64_word]
theorem g13 (a : W) : IntKind.u64.wrap ((wn a).tdiv (8192 : Int)) = wn (a >>> 13) := by
  rw [Int.tdiv_eq_ediv_of_nonneg (wn_ge a), h13, u64_word]
theorem u32_word (a : W) : wn a % 4294967296 = wn a := by have := wn_ge a; have := wn_lt a; omega

theorem weight_any (m : Int) (f : ByteArray) (hf : f.size ≤ 9223372036854775807) (w : World) :
    Calls Try.prog 87 #[.int .i64 m, .string f] w fun e w' => e = .returned (U (wgt (sum f.data.toList) m)) ∧ Below w.heap.size w w' := by
  have HS : Hid (∀ W : World, Calls Try.prog 26 #[.string f] W fun e w' => e = .returned (.int .u32 (wn (sum f.data.toList))) ∧ Below W.heap.size W w') := fun W => sum_any f hf W
  generalize sum f.data.toList = s at HS ⊢
  go_enter Try.func87, Try.ntmps87
  go_wp2_with (go_at_call 26; ((with_reducible refine (HS.out _).mono ?_)); rintro e w1 ⟨rfl, hb1⟩; have HB1 := Lib.hid hb1; clear hb1)
  go_ret
  refine ⟨congrArg Ending.returned (congrArg (Value.int .u32) ?_), HB1.out⟩
  simp only [m0, xor_word, h16, m1, h13, m2]
  rfl

theorem weightOf_any (m : Int) (f : ByteArray) (hf : f.size ≤ 9223372036854775807) (w : World) :
    Calls Try.prog 88 #[.int .i64 m, .string f] w fun e w' => e = .returned (U (wgt (sum f.data.toList) m)) ∧ Below w.heap.size w w' := by
  have HS : Hid (∀ W : World, Calls Try.prog 29 #[.string f] W fun e w' => e = .returned (.int .u32 (wn (sum f.data.toList))) ∧ Below W.heap.size W w') := fun W => (refSum_any f hf W).mono fun e w' ⟨h1, h2⟩ => ⟨h1, h2 ▸ Below.refl _ _⟩
  generalize sum f.data.toList = s at HS ⊢
  go_enter Try.func88, Try.ntmps88
  go_wp2_with (go_at_call 29; ((with_reducible refine (HS.out _).mono ?_)); rintro e w1 ⟨rfl, hb1⟩; have HB1 := Lib.hid hb1; clear hb1)
  go_ret
  refine ⟨congrArg Ending.returned (congrArg (Value.int .u32) ?_), HB1.out⟩
  simp only [n0, u64_word, xor64_word, g16, n1, g13, n2, u32_word, IntKind.wrap_u32]
  rfl
end Go.Proofs.Ytfeddgeihpfjfaa
