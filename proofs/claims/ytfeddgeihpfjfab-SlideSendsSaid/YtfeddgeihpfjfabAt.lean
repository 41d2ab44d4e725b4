/- The contract of 'at'. -/
import Derived.Test.YtfeddgeihpfjfabProg
import Derived.Test.YtfeddgeihpfjfabMem
import Derived.Deep.QuietTactic
import Derived.BigQuiet
import Derived.Lib.Hide
namespace Go.Proofs.Ytfeddgeihpfjfab
open Go.RowKit

theorem at_any {B : Nat} (A : Option Addr) (xs : List Int) (cap : Nat) (i : Int) (j : Nat) (hi : i = j) (hj : j < 1000) (w : World) (h : Ints B w A xs) :
    Calls Try.prog 14 #[.slice A xs.length cap, .int .i64 i] w fun e w' => e = .returned (.int .i64 (xs.getD j 0)) ∧ w = w' := by
  subst hi
  have hlen := h.1
  by_cases c : j < xs.length
  · obtain ⟨ad, rfl, _, hc⟩ := h.2.2 (by omega)
    have hcell := hc j c
    clear hc h
    go_enter Try.func14, Try.ntmps14
    go_wp2
    go_ret
    exact ⟨by simp [List.getD_eq_getElem?_getD, List.getElem?_eq_getElem c], rfl⟩
  · have hg : xs.getD j 0 = 0 := by simp [List.getD_eq_getElem?_getD, List.getElem?_eq_none (show xs.length ≤ j by omega)]
    rw [hg]
    clear h hg
    go_enter Try.func14, Try.ntmps14
    go_wp2
    go_ret
    exact ⟨rfl, rfl⟩
end Go.Proofs.Ytfeddgeihpfjfab
