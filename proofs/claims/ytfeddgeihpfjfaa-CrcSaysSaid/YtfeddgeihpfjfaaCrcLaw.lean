/- The law CrcSays, walked. -/
import Derived.Test.YtfeddgeihpfjfaaCrcOpen
import Derived.Test.YtfeddgeihpfjfaaCrcMat
import Derived.Test.YtfeddgeihpfjfaaCut
set_option linter.unusedSimpArgs false
set_option linter.unusedVariables false
namespace Go.Proofs.Ytfeddgeihpfjfaa
open Go.RowKit Crc

theorem U32.word {x : Int} (h : U32 x) : ∃ c : W, x = wn c := by
  obtain ⟨h0, h1⟩ := h
  exact ⟨BitVec.ofNat 32 x.toNat, by rw [wn_const _ (by omega)]; omega⟩

theorem sum_digits (w : World) :
    Calls Try.prog 26 #[.string ⟨#[49, 50, 51, 52, 53, 54, 55, 56, 57]⟩] w fun e w' => e = .returned (.int .u32 3421780262) ∧ Below w.heap.size w w' := by
  have h := sum_any ⟨#[49, 50, 51, 52, 53, 54, 55, 56, 57]⟩ (by decide) w
  have e : wn (sum (ByteArray.mk #[49, 50, 51, 52, 53, 54, 55, 56, 57]).data.toList) = 3421780262 := by
    show wn (sum [49, 50, 51, 52, 53, 54, 55, 56, 57]) = _
    rw [sum_check]; rfl
  simp only [U, e] at h
  exact h

set_option maxRecDepth 100000 in
set_option maxHeartbeats 2000000 in
theorem crc_law (w : World) (a : Int) (ha : U32 a) (b : Int) (hb : U32 b) (n : Int) (hn : I64 n) (s : ByteArray) (hs : s.size ≤ 140737488351232) :
    Calls Try.prog 4 #[.int .u32 a, .int .u32 b, .int .i64 n, .string s] w fun e w' => e = .returned (.bool true) ∧ Below w.heap.size w w' := by
  obtain ⟨a, rfl⟩ := ha.word
  obtain ⟨b, rfl⟩ := hb.word
  have hn1 := hn.2
  have HC : Hid (∀ W : World, Calls Try.prog 25 #[.string s, .int .i64 3000] W fun e w' => e = .returned (.string (s.extract 0 (min (s.size : Int) 3000).toNat)) ∧ W = w') := fun W => cut_any s 3000 (by omega) hs W
  have hts : (s.extract 0 (min (s.size : Int) 3000).toNat).size ≤ 140737488351232 := by rw [ByteArray.size_extract]; omega
  generalize s.extract 0 (min (s.size : Int) 3000).toNat = t at HC hts
  have HO1 : Hid (∀ W : World, Calls Try.prog 27 #[.string t] W fun e w' => e = .returned (.tuple #[.string (bs (openS t.data.toList).1), .int .i64 (openS t.data.toList).2]) ∧ Below W.heap.size W w') := fun W => open_any t hts W
  have HO2 : Hid (∀ W : World, Calls Try.prog 28 #[.string t] W fun e w' => e = .returned (.tuple #[.string (bs (openS t.data.toList).1), .int .i64 (openS t.data.toList).2]) ∧ Below W.heap.size W w') := fun W => refOpened_any t hts W
  have HS1 : Hid (∀ W : World, Calls Try.prog 26 #[.string t] W fun e w' => e = .returned (U (sum t.data.toList)) ∧ Below W.heap.size W w') := fun W => sum_any t (by omega) W
  have HS2 : Hid (∀ W : World, Calls Try.prog 29 #[.string t] W fun e w' => e = .returned (U (sum t.data.toList)) ∧ W = w') := fun W => refSum_any t (by omega) W
  have HJ1 : Hid (∀ W : World, Calls Try.prog 30 #[U a, U b, .int .i64 n] W fun e w' => e = .returned (U (joinW a b n)) ∧ W = w') := fun W => join_any a b n hn1 W
  have HJ2 : Hid (∀ W : World, Calls Try.prog 31 #[U a, U b, .int .i64 n] W fun e w' => e = .returned (U (joinW a b n)) ∧ Below W.heap.size W w') := fun W => joinR_eq a b n ▸ joinSum_any a b n hn1 W
  have HL1 : Hid (∀ W : World, Calls Try.prog 32 #[.string t] W fun e w' => e = .returned (.string (bs (sealed t.data.toList))) ∧ Below W.heap.size W w') := fun W => seal_any t hts W
  have HL2 : Hid (∀ W : World, Calls Try.prog 33 #[.string t] W fun e w' => e = .returned (.string (bs (sealed t.data.toList))) ∧ Below W.heap.size W w') := fun W => refSealed_any t hts W
  generalize bs (openS t.data.toList).1 = o1 at HO1 HO2
  generalize (openS t.data.toList).2 = o2 at HO1 HO2
  generalize sum t.data.toList = c at HS1 HS2
  generalize joinW a b n = j at HJ1 HJ2
  generalize bs (sealed t.data.toList) = l at HL1 HL2
  clear hn hn1 hts hs
  have HB : Hid (Below w.heap.size w w) := Below.refl _ _
  have HZ : Hid (w.heap.size ≤ w.heap.size) := Nat.le_refl _
  go_enter Try.func4, Try.ntmps4
  go_wp2_with (first
    | (go_at_call 25; ((with_reducible refine (HC.out _).mono ?_)); rintro e w1 ⟨rfl, rfl⟩)
    | (go_at_call 30; ((with_reducible refine (HJ1.out _).mono ?_)); rintro e w1 ⟨rfl, rfl⟩)
    | (go_at_call 29; ((with_reducible refine (HS2.out _).mono ?_)); rintro e w1 ⟨rfl, rfl⟩)
    | ((first
        | (go_at_call 26; ((with_reducible refine (sum_digits _).mono ?_)))
        | (go_at_call 26; ((with_reducible refine (HS1.out _).mono ?_)))
        | (go_at_call 27; ((with_reducible refine (HO1.out _).mono ?_)))
        | (go_at_call 28; ((with_reducible refine (HO2.out _).mono ?_)))
        | (go_at_call 31; ((with_reducible refine (HJ2.out _).mono ?_)))
        | (go_at_call 32; ((with_reducible refine (HL1.out _).mono ?_)))
        | (go_at_call 33; ((with_reducible refine (HL2.out _).mono ?_))));
       rintro e w1 ⟨rfl, hb1⟩; have HB := Lib.hid (HB.out.trans (hb1.mono HZ.out)); have HZ := Lib.hid (Nat.le_trans HZ.out hb1.size); clear hb1))
  go_ret
  exact ⟨rfl, HB.out⟩
end Go.Proofs.Ytfeddgeihpfjfaa
