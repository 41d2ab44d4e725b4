/- The bits of a number (plain). -/
import Derived.Test.YtfeddgeihpfjfaaBitsB
namespace Go.Proofs.Ytfeddgeihpfjfaa
open Go.RowKit

/-- One bit as a string. -/
def bitS (n : Int) : ByteArray := if n % 2 = 0 then ⟨#[48]⟩ else ⟨#[49]⟩
/-- The last k bits. -/
def binS : Nat → Int → ByteArray
  | 0, _ => ⟨#[]⟩
  | k + 1, n => binS k (n / 2) ++ bitS n
theorem bitS_size (n : Int) : (bitS n).size = 1 := by unfold bitS; split <;> rfl
theorem binS_size (k : Nat) : ∀ n, (binS k n).size = k := by
  induction k with
  | zero => intro n; rfl
  | succ k ih =>
    intro n
    show (binS k (n / 2) ++ bitS n).size = k + 1
    rw [ByteArray.size_append, ih, bitS_size]
end Go.Proofs.Ytfeddgeihpfjfaa
