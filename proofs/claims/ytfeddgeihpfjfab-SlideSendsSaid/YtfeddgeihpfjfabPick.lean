/- The contract of 'pick': some string of at most 2000 bytes. -/
import Derived.Test.YtfeddgeihpfjfabCut
import Derived.Deep.QuietTactic
import Derived.BigQuiet
set_option linter.unusedSimpArgs false
set_option linter.unusedVariables false
namespace Go.Proofs.Ytfeddgeihpfjfab
open Go.RowKit

def SomeText (n : Nat) (w : World) (e : Ending) (w' : World) : Prop := ∃ s : ByteArray, s.size ≤ n ∧ e = .returned (.string s) ∧ w = w'

set_option maxHeartbeats 1000000 in
theorem pick_any {B : Nat} (A : Option Addr) (ls : List ByteArray) (cap : Nat) (i : Int) (w : World) (h : Strs B w A ls) :
    Calls Try.prog 13 #[.slice A ls.length cap, .int .i64 i] w (SomeText 2000 w) := by
  by_cases h0 : ls.length = 0
  · have q : ((ls.length : Int) == 0) = true := by simp [h0]
    clear h h0
    go_enter Try.func13, Try.ntmps13
    go_wp2
    go_ret
    exact ⟨⟨#[]⟩, by decide, rfl, rfl⟩
  · obtain ⟨hl, hsz, hc⟩ := h
    obtain ⟨ad, rfl, _, hcell⟩ := hc (Nat.pos_of_ne_zero h0)
    have q : ((ls.length : Int) == 0) = false := by rw [beq_eq_false_iff_ne]; omega
    have hk := uidx_lt i (show 0 < ls.length by omega)
    have hke := uidx_eq i (show 0 < ls.length by omega) hl
    generalize uidx i ls.length = k at hk hke
    have hcl := hcell k hk
    have hz : (ls.getD k ByteArray.empty).size ≤ 9223372036854775807 := by
      rw [List.getD_eq_getElem?_getD, List.getElem?_eq_getElem hk]; exact hsz _ (List.getElem_mem hk)
    generalize ls.getD k ByteArray.empty = s at hcl hz
    have HC : Hid (∀ W : World, Calls Try.prog 60 #[.string s, .int .i64 2000] W fun e w' => e = .returned (.string (s.extract 0 (min (s.size : Int) 2000).toNat)) ∧ W = w') := fun W => cut_any s 2000 (by omega) hz W
    have hts : (s.extract 0 (min (s.size : Int) 2000).toNat).size ≤ 2000 := by rw [ByteArray.size_extract]; omega
    generalize s.extract 0 (min (s.size : Int) 2000).toNat = t at HC hts
    clear hcell hc hsz hz
    go_enter Try.func13, Try.ntmps13
    go_wp2_with (go_at_call 60; ((with_reducible refine (HC.out _).mono ?_)); rintro e w1 ⟨rfl, rfl⟩)
    go_ret
    exact ⟨t, hts, rfl, rfl⟩
end Go.Proofs.Ytfeddgeihpfjfab
