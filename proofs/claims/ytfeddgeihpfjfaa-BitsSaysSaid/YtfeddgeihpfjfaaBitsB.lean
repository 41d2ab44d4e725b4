/- Bit strings (plain). -/
import Derived.Test.YtfeddgeihpfjfaaMem
import Derived.Laws.RangeString
import Derived.Laws.RangeAny
import Derived.Lib.Hide
namespace Go.Proofs.Ytfeddgeihpfjfaa
open Go.RowKit

def isBitU (c : UInt8) : Bool := c == 48 || c == 49
/-- Is a string one of zeros and ones? -/
def isBitsB (s : ByteArray) : Bool := s.data.toList.all isBitU
theorem drop_byte (s : ByteArray) (k : Nat) (h : k < s.size) : s.data.toList.drop k = s[k] :: s.data.toList.drop (k + 1) := by
  rw [List.drop_eq_getElem_cons (by simpa using h)]; rfl
theorem bits_step (s : ByteArray) (k : Nat) (h : k < s.size) : (s.data.toList.drop k).all isBitU = (isBitU s[k] && (s.data.toList.drop (k + 1)).all isBitU) := by
  rw [drop_byte s k h]; rfl
theorem bits_end (s : ByteArray) (k : Nat) (h : ¬ k < s.size) : (s.data.toList.drop k).all isBitU = true := by
  rw [List.drop_eq_nil_of_le (by simpa using h)]; rfl
theorem u8_of_nat {c : UInt8} {n : Nat} (h : c.toNat = n) (hn : n < 256) : c = UInt8.ofNat n := by
  apply UInt8.toNat_inj.1
  simp [h]; omega
end Go.Proofs.Ytfeddgeihpfjfaa
