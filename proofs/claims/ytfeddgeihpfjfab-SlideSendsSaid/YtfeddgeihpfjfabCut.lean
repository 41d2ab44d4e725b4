/- The contract of 'cut'. -/
import Derived.Test.YtfeddgeihpfjfabProg
import Derived.Test.YtfeddgeihpfjfabMem
import Derived.Lib.Hide
namespace Go.Proofs.Ytfeddgeihpfjfab
open Go.RowKit
attribute [local go_sem] min_ints max_ints

theorem cut_any (s : ByteArray) (n : Int) (hn : 0 ≤ n) (hs : s.size ≤ 9223372036854775807) (w : World) :
    Calls Try.prog 60 #[.string s, .int .i64 n] w fun e w' => e = .returned (.string (s.extract 0 (min (s.size : Int) n).toNat)) ∧ w = w' := by
  have h1 : (min (s.size : Int) n).toNat ≤ s.size := by omega
  have h2 : 0 ≤ min (s.size : Int) n := by omega
  have h3 : min (s.size : Int) n ≤ s.size := by omega
  go_enter Try.func60, Try.ntmps60
  generalize hm : min (s.size : Int) n = m at *
  have HM := Lib.hid hm
  clear hm
  have hq : min (s.size : Int) n = m := HM.out
  go_wp2
  go_ret
  exact ⟨rfl, rfl⟩
end Go.Proofs.Ytfeddgeihpfjfab
