/- The law BitsSays, walked. -/
import Derived.Test.YtfeddgeihpfjfaaBitsP2
import Derived.Laws.BytesArg
import Derived.Outline
import Derived.WalkLawsBesides
set_option linter.unusedVariables false
set_option linter.unusedSimpArgs false
namespace Go.Proofs.Ytfeddgeihpfjfaa
open Go.RowKit Go.Proofs.YtfeddgeihpfjfaaW.PrintWords Go.Proofs.YtfeddgeihpfjfaaW.PrintLast Go.Proofs.YtfeddgeihpfjfaaW.PrintMore Go.Proofs.Ytfeddgeihpfjfaa.JBitsSays

/-- A contract that hands back a value, in whatever world. -/
abbrev Says (f : FuncId) (args : Array Value) (v : Value) : Prop := ∀ W : World, Calls Try.prog f args W fun e w' => e = .returned v ∧ Below W.heap.size W w'
theorem Says.of {f : FuncId} {args : Array Value} {v : Value} (h : ∀ W : World, Calls Try.prog f args W fun e w' => e = .returned v ∧ Below W.heap.size W w') : Says f args v := h
theorem Says.ofD {f : FuncId} {args : Array Value} {v : Value} (h : ∀ W : World, Calls Try.prog f args W fun e w' => e = .returned v ∧ Drawn0 W w') : Says f args v := fun W => (h W).mono fun _ _ ⟨he, hd⟩ => ⟨he, hd.below⟩

theorem cut_says (s : ByteArray) (n : Nat) (N : Int) (hN : N = n) (hn : n ≤ 100000) (hs : s.size ≤ 140737488351232) : ∃ r : ByteArray, r.size ≤ n ∧ Says 25 #[.string s, .int .i64 N] (.string r) := by
  subst hN
  refine ⟨s.extract 0 (min s.size n), by rw [ByteArray.size_extract]; omega, Says.of fun W => ?_⟩
  refine patchbaylaw1_cut.calls s n _ W ?_
  unfold patchbaylaw1_cut.f
  have e : mn (s.size : Int) (n : Int) = ((min s.size n : Nat) : Int) := by unfold mn; split <;> omega
  rw [e, if_pos (by omega), if_pos (by omega), Int.toNat_natCast]

set_option maxRecDepth 100000 in
set_option maxHeartbeats 4000000 in
theorem bits_law (w : World) (s : ByteArray) (hs : s.size ≤ 140737488351232) (a : ByteArray) (ha : a.size ≤ 140737488351232) (b : ByteArray) (hb : b.size ≤ 140737488351232) (i : Int) (_ : I64 i) :
    Calls Try.prog 12 #[.string s, .string a, .string b, .int .i64 i] w fun e w' => e = .returned (.bool true) ∧ Below w.heap.size w w' := by
  obtain ⟨s1, hs1, cs⟩ := cut_says s 200 200 rfl (by omega) hs
  obtain ⟨a1, ha1, ca⟩ := cut_says a 400 400 rfl (by omega) ha
  obtain ⟨b1, hb1, cb⟩ := cut_says b 400 400 rfl (by omega) hb
  have CS := Lib.hid cs
  have CA := Lib.hid ca
  have CB := Lib.hid cb
  clear cs ca cb
  -- what both sides tell
  obtain ⟨r1, hy1, hy2⟩ := bytes_both a1 ha1
  obtain ⟨r2, hx1, hx2⟩ := xor_both a1 b1 (by omega) (by omega)
  obtain ⟨r3, hf1, hf2⟩ := flip_both a1 i (by omega)
  have hwt := weight_is a1 (by omega)
  obtain ⟨k1, hy1⟩ := hy1.rounds
  obtain ⟨k2, hy2⟩ := hy2.rounds
  obtain ⟨k3, hx1⟩ := hx1.rounds
  obtain ⟨k4, hx2⟩ := hx2.rounds
  obtain ⟨k5, hf2⟩ := hf2.rounds
  obtain ⟨k6, hwt⟩ := hwt.rounds
  obtain ⟨t, e⟩ := r1
  obtain ⟨x, g⟩ := r2
  have BY : Hid (Says 74 #[.string a1] (.tuple #[.string t, .int .i64 e])) := Says.of fun W => bits_Bytes.calls k1 a1 t e W hy1
  have TX : Hid (Says 75 #[.string a1] (.tuple #[.string t, .int .i64 e])) := Says.of fun W => patchbayref1_Text.calls k2 a1 t e W hy2
  have XP : Hid (Says 76 #[.string a1, .string b1] (.tuple #[.string x, .int .i64 g])) := Says.of fun W => bits_Xor.calls k3 a1 b1 x g W hx1
  have XR : Hid (Says 77 #[.string a1, .string b1] (.tuple #[.string x, .int .i64 g])) := Says.of fun W => patchbayref1_Xor.calls k4 a1 b1 x g W hx2
  have FP : Hid (Says 79 #[.string a1, .int .i64 i] (.string r3)) := Says.of fun W => bits_Flip.calls a1 i r3 W hf1
  have FR : Hid (Says 80 #[.string a1, .int .i64 i] (.string r3)) := Says.ofD fun W => patchbayref1_Flip.calls k5 a1 i r3 W hf2
  have WT : Hid (Says 81 #[.string a1] (.int .i64 (ones a1 a1.size))) := Says.ofD fun W => bits_Weight.calls k6 a1 (ones a1 a1.size) W hwt
  have OA : Hid (Says 73 #[.string ⟨#[65]⟩] (.string ⟨#[48, 49, 48, 48, 48, 48, 48, 49]⟩)) := Says.of fun W => bits_Of.calls ⟨#[65]⟩ _ W (by kernel_rfl)
  obtain ⟨o, ho⟩ : ∃ o : ByteArray, bits_Of.f s1 = some o := ⟨_, if_pos (by omega)⟩
  have OS : Hid (Says 73 #[.string s1] (.string o)) := Says.of fun W => bits_Of.calls s1 o W ho
  have BS : Hid (Says 78 #[.string s1] (.string o)) := Says.of fun W => patchbayref1_Bits.calls s1 o W ho
  clear hy1 hy2 hx1 hx2 hf1 hf2 hwt ho
  have HON : Hid (∀ n, 0 ≤ ones a1 n ∧ ones a1 n ≤ n) := ones_range a1
  have HST : Hid (∀ n : Nat, ones a1 (n + 1) = ones a1 n + if bt a1 (n : Int) = 49 then 1 else 0) := fun n => rfl
  have HBT : Hid (∀ j : Nat, (bytesOf a1).getD j 0 = bt a1 (j : Int)) := fun j => by rw [← rd_bytesOf]; unfold rd; rw [Int.toNat_natCast]
  have HRD : Hid (∀ W : World, ReadsInt (Lib.bytesWorld W 5 a1) .u8 (some ⟨W.heap.size, 0, none⟩) a1.size (bytesOf a1)) := fun W => bytes_reads W 5 a1 (by omega)
  have hn : a1.size ≤ 400 := ha1
  clear hs ha hb hs1 ha1 hb1
  have HB : Hid (Below w.heap.size w w) := Below.refl _ _
  have kb := fun W => print_bytes (P := Try.prog) 9 126 5 Try.underlying9 Try.underlying126 Try.underlying5 a1 W
  go_enter Try.func12, Try.ntmps12
  go_wp2_with (first
    | (go_at_call 25; ((with_reducible refine (CS.out _).mono ?_)); rintro e w1 ⟨rfl, hb⟩; replace HB := Lib.hid (below_then HB.out HB.out.size hb); clear hb)
    | (go_at_call 25; ((with_reducible refine (CA.out _).mono ?_)); rintro e w1 ⟨rfl, hb⟩; replace HB := Lib.hid (below_then HB.out HB.out.size hb); clear hb)
    | (go_at_call 25; ((with_reducible refine (CB.out _).mono ?_)); rintro e w1 ⟨rfl, hb⟩; replace HB := Lib.hid (below_then HB.out HB.out.size hb); clear hb)
    | (go_at_call 73; ((with_reducible refine (OA.out _).mono ?_)); rintro e w1 ⟨rfl, hb⟩; replace HB := Lib.hid (below_then HB.out HB.out.size hb); clear hb)
    | (go_at_call 74; ((with_reducible refine (BY.out _).mono ?_)); rintro e w1 ⟨rfl, hb⟩; replace HB := Lib.hid (below_then HB.out HB.out.size hb); clear hb)
    | (go_at_call 75; ((with_reducible refine (TX.out _).mono ?_)); rintro e w1 ⟨rfl, hb⟩; replace HB := Lib.hid (below_then HB.out HB.out.size hb); clear hb)
    | (go_at_call 76; ((with_reducible refine (XP.out _).mono ?_)); rintro e w1 ⟨rfl, hb⟩; replace HB := Lib.hid (below_then HB.out HB.out.size hb); clear hb)
    | (go_at_call 77; ((with_reducible refine (XR.out _).mono ?_)); rintro e w9 ⟨rfl, hb⟩; replace HB := Lib.hid (below_then HB.out HB.out.size hb); clear hb))
  have HB2 : Hid (Below w.heap.size w (Lib.bytesWorld w9 5 a1)) := bytes_below HB.out HB.out.size 5 a1
  have HR := Lib.hid (HRD.out w9)
  clear HB HRD kb
  generalize Lib.bytesWorld w9 5 a1 = W1 at HB2 HR ⊢
  generalize w9.heap.size = g9 at HR ⊢
  generalize grownCap w9 a1.size 0 5 = c9
  go_loop [17, 53] (fun n i => ∃ k : Nat, k ≤ a1.size ∧ i = .int .i64 k ∧ n = .int .i64 (ones a1 k)) (fun _ i => a1.size - (intOf i).toNat)
  case atStart => exact ⟨0, by omega, rfl, rfl⟩
  case round =>
    obtain ⟨k, hk, rfl, rfl⟩ := hrel
    by_cases hlt : k < a1.size
    · obtain ⟨ad, had, hc⟩ := HR.out.2.2 (by omega)
      obtain rfl : (⟨g9, 0, none⟩ : Addr) = ad := by injection had
      have hck := hc k hlt
      rw [add_plain, HBT.out] at hck
      have hor := HON.out k
      have hst := HST.out k
      clear hc had HR
      have hlt' : ((k : Int) < (a1.size : Int)) = True := eq_true (by omega)
      by_cases hb : bt a1 (k : Int) = 49
      · rw [if_pos hb] at hst
        rw [hb] at hck
        go_wp2
        go_round
        case rel => exact ⟨k + 1, by omega, by simp, by rw [hst]⟩
        case measure => simp [intOf]; try omega
      · rw [if_neg hb] at hst
        go_wp2
        go_round
        case rel => exact ⟨k + 1, by omega, by simp, by rw [hst]; simp⟩
        case measure => simp [intOf]; try omega
    · obtain rfl : k = a1.size := by omega
      have HB := HB2
      clear HR HB2
      go_wp2_with (first
      | (go_at_call 73; ((with_reducible refine (OS.out _).mono ?_)); rintro e w1 ⟨rfl, hb⟩; replace HB := Lib.hid (below_then HB.out HB.out.size hb); clear hb)
      | (go_at_call 78; ((with_reducible refine (BS.out _).mono ?_)); rintro e w1 ⟨rfl, hb⟩; replace HB := Lib.hid (below_then HB.out HB.out.size hb); clear hb)
      | (go_at_call 79; ((with_reducible refine (FP.out _).mono ?_)); rintro e w1 ⟨rfl, hb⟩; replace HB := Lib.hid (below_then HB.out HB.out.size hb); clear hb)
      | (go_at_call 80; ((with_reducible refine (FR.out _).mono ?_)); rintro e w1 ⟨rfl, hb⟩; replace HB := Lib.hid (below_then HB.out HB.out.size hb); clear hb)
      | (go_at_call 81; ((with_reducible refine (WT.out _).mono ?_)); rintro e w1 ⟨rfl, hb⟩; replace HB := Lib.hid (below_then HB.out HB.out.size hb); clear hb))
      go_ret
      exact ⟨rfl, HB.out⟩
end Go.Proofs.Ytfeddgeihpfjfaa
