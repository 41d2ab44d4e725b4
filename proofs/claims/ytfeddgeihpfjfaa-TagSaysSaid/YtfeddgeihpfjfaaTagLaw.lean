/- The law TagSays. -/
import Derived.Test.YtfeddgeihpfjfaaTag3
import Derived.Test.YtfeddgeihpfjfaaOpenTag
import Derived.Deep.RegionHeld3
set_option linter.unusedSimpArgs false
set_option linter.unusedVariables false
namespace Go.Proofs.Ytfeddgeihpfjfaa
open Go.RowKit

/-- What lies in memory when the two sides are compared. -/
structure TagT (w : World) (a : Int) (A : Option Addr) (L cap : Nat) (X Y : Nat) (d s t y : Int) (b : ByteArray) (W : World) : Prop where
  bp : Blk W w.heap.size #[.int .i64 a, .slice A L cap] 81
  bx : Blk W X #[.int .i64 d, .int .i64 s, .int .i64 t, .int .i64 y, .string b] 83
  bt : Blk W Y #[.int .i64 d, .int .i64 s, .int .i64 t, .int .i64 y, .string b] 83
  below : Below w.heap.size w W
theorem TagT.next {w : World} {a : Int} {A : Option Addr} {L cap X Y : Nat} {d s t y : Int} {b : ByteArray} {W W' : World} (h : TagT w a A L cap X Y d s t y b W) (hb : Below W.heap.size W W') : TagT w a A L cap X Y d s t y b W' :=
  ⟨blk_below hb h.bp, blk_below hb h.bx, blk_below hb h.bt, h.below.trans (hb.mono h.below.size)⟩
theorem TagT.drew {w : World} {a : Int} {A : Option Addr} {L cap X Y : Nat} {d s t y : Int} {b : ByteArray} {W : World} (h : TagT w a A L cap X Y d s t y b W) : TagT w a A L cap X Y d s t y b W.drew :=
  ⟨h.bp, h.bx, h.bt, ⟨h.below.os, h.below.tape, h.below.output, h.below.size, h.below.block⟩⟩
theorem TagT.cells {w : World} {a : Int} {A : Option Addr} {L cap X Y : Nat} {d s t y : Int} {b : ByteArray} {W : World} (h : TagT w a A L cap X Y d s t y b W) :
    W.cell? ⟨w.heap.size, 0, none⟩ = some (.int .i64 a) ∧ W.cell? ⟨w.heap.size, 1, none⟩ = some (.slice A L cap) ∧
    W.cell? ⟨X, 0, none⟩ = some (.int .i64 d) ∧ W.cell? ⟨X, 1, none⟩ = some (.int .i64 s) ∧ W.cell? ⟨X, 2, none⟩ = some (.int .i64 t) ∧ W.cell? ⟨X, 3, none⟩ = some (.int .i64 y) ∧ W.cell? ⟨X, 4, none⟩ = some (.string b) ∧
    W.cell? ⟨Y, 0, none⟩ = some (.int .i64 d) ∧ W.cell? ⟨Y, 1, none⟩ = some (.int .i64 s) ∧ W.cell? ⟨Y, 2, none⟩ = some (.int .i64 t) ∧ W.cell? ⟨Y, 3, none⟩ = some (.int .i64 y) ∧ W.cell? ⟨Y, 4, none⟩ = some (.string b) ∧
    Hid (TagT w a A L cap X Y d s t y b W) :=
  ⟨h.bp.cell 0 rfl, h.bp.cell 1 rfl, h.bx.cell 0 rfl, h.bx.cell 1 rfl, h.bx.cell 2 rfl, h.bx.cell 3 rfl, h.bx.cell 4 rfl, h.bt.cell 0 rfl, h.bt.cell 1 rfl, h.bt.cell 2 rfl, h.bt.cell 3 rfl, h.bt.cell 4 rfl, h⟩

set_option maxRecDepth 100000 in
set_option maxHeartbeats 4000000 in
theorem tag_law (w : World) (p : TP) (hp : p.ok w.heap.size w) (n : Int) (_ : I64 n) (f : FR) (hf : f.ok) :
    Calls Try.prog 11 #[p.val, .int .i64 n, f.val] w fun e w' => e = .returned (.bool true) ∧ Below w.heap.size w w' := by
  obtain ⟨a, A, l, cap⟩ := p
  obtain ⟨d, s, t, y, b⟩ := f
  obtain ⟨_, hints, hcap, hmax⟩ := hp
  obtain ⟨_, hs, _, _⟩ := hf
  show Calls Try.prog 11 #[.agg #[.int .i64 a, .slice A l.length cap], .int .i64 n, .agg #[.int .i64 d, .int .i64 s, .int .i64 t, .int .i64 y, .string b]] w _
  simp only [] at hints hcap hmax hs
  have hlen := hints.1
  have HX : Hid (∀ W : World, Below w.heap.size w W → Ints w.heap.size W A l) := fun W hb => hints.below hb
  have H7 : Hid (∀ W : World, Calls Try.prog 51 #[.agg #[.int .i64 7, .slice none 0 0], .agg #[.int .i64 0, .int .i64 0, .int .i64 0, .int .i64 0, .string ⟨#[]⟩]] W fun e w' =>
      e = .returned (.tuple #[.int .i64 7, .int .i64 0]) ∧ Below W.heap.size W w') := fun W => tagIn_any 7 none [] 0 0 0 0 0 ⟨#[]⟩ ⟨by decide, by decide⟩ W (B := W.heap.size) (Nat.le_refl _) ⟨by simp, by simp, by simp⟩
  have HI : Hid (∀ W : World, w.heap.size ≤ W.heap.size → Ints w.heap.size W A l → Calls Try.prog 51 #[.agg #[.int .i64 a, .slice A l.length cap], .agg #[.int .i64 d, .int .i64 s, .int .i64 t, .int .i64 y, .string b]] W fun e w' =>
      e = .returned (.tuple #[.int .i64 (inTag a l t (portE a l) (frameE d s t y b.size)).1, .int .i64 (inTag a l t (portE a l) (frameE d s t y b.size)).2]) ∧ Below W.heap.size W w') := fun W h1 h2 => tagIn_any a A l cap d s t y b hs W h1 h2
  have HN : Hid (∀ W : World, w.heap.size ≤ W.heap.size → Ints w.heap.size W A l → Calls Try.prog 69 #[.agg #[.int .i64 a, .slice A l.length cap], .agg #[.int .i64 d, .int .i64 s, .int .i64 t, .int .i64 y, .string b]] W fun e w' =>
      e = .returned (.tuple #[.int .i64 (inTag a l t (portE a l) (frameE d s t y b.size)).1, .int .i64 (inTag a l t (portE a l) (frameE d s t y b.size)).2]) ∧ Below W.heap.size W w') := fun W h1 h2 => refNet_any a A l cap d s t y b hs W h1 h2
  have HO : Hid (∀ W : World, w.heap.size ≤ W.heap.size → Ints w.heap.size W A l → Calls Try.prog 55 #[.agg #[.int .i64 a, .slice A l.length cap], .int .i64 n, .agg #[.int .i64 d, .int .i64 s, .int .i64 t, .int .i64 y, .string b]] W fun e w' =>
      e = .returned (outV (outTag a n l (portE a l) (frameE d s t y b.size)) d s y b) ∧ Below W.heap.size W w') := fun W h1 h2 => tagOut_any a A l cap n d s t y b hs W h1 h2
  have HL : Hid (∀ W : World, w.heap.size ≤ W.heap.size → Ints w.heap.size W A l → Calls Try.prog 70 #[.agg #[.int .i64 a, .slice A l.length cap], .int .i64 n, .agg #[.int .i64 d, .int .i64 s, .int .i64 t, .int .i64 y, .string b]] W fun e w' =>
      e = .returned (outV (outTag a n l (portE a l) (frameE d s t y b.size)) d s y b) ∧ Below W.heap.size W w') := fun W h1 h2 => refLeaves_any a A l cap n d s t y b hs W h1 h2
  have HC : Hid (∀ W : World, w.heap.size ≤ W.heap.size → Ints w.heap.size W A l → Calls Try.prog 71 #[.agg #[.int .i64 a, .slice A l.length cap]] W fun e w' => e = .returned (.int .i64 (portE a l)) ∧ Below W.heap.size W w') := fun W h1 h2 => tagCheck_any a A l cap W h1 h2
  have HP : Hid (∀ W : World, w.heap.size ≤ W.heap.size → Ints w.heap.size W A l → Calls Try.prog 72 #[.agg #[.int .i64 a, .slice A l.length cap]] W fun e w' => e = .returned (.int .i64 (portE a l)) ∧ Below W.heap.size W w') := fun W h1 h2 => portErr_any a A l cap W h1 h2
  have hout : ∃ (d' s' t' y' : Int) (b' : ByteArray) (is : Bool) (e : Int), outV (outTag a n l (portE a l) (frameE d s t y b.size)) d s y b = .tuple #[.agg #[.int .i64 d', .int .i64 s', .int .i64 t', .int .i64 y', .string b'], .bool is, .int .i64 e] := by
    generalize outTag a n l (portE a l) (frameE d s t y b.size) = o
    obtain ⟨_ | t', e⟩ := o
    · exact ⟨0, 0, 0, 0, ⟨#[]⟩, false, e, rfl⟩
    · exact ⟨d, s, t', y, b, true, e, rfl⟩
  obtain ⟨d', s', t', y', b', is, oe, hout⟩ := hout
  rw [hout] at HO HL
  generalize (inTag a l t (portE a l) (frameE d s t y b.size)).1 = i1 at HI HN
  generalize (inTag a l t (portE a l) (frameE d s t y b.size)).2 = i2 at HI HN
  generalize portE a l = pe at HC HP
  clear hout hints hcap hmax
  generalize l.length = L at *
  have r1 : (pe == pe) = true := by simp
  have r2 : (i1 == i1) = true := by simp
  have r3 : (i2 == i2) = true := by simp
  go_enter Try.func11, Try.ntmps11
  go_wp2_with (first
    | (go_at_call 51; ((with_reducible refine (H7.out _).mono ?_)); rintro e w1 ⟨rfl, hb1⟩; obtain ⟨hc1, hz1⟩ := bcell hb1; have s1 : w.heap.size + 1 < w1.heap.size := (by have z := hb1.size; simp only [World.size_alloc] at z; omega); have s1' : w.heap.size < w1.heap.size := (by omega); have HB1 : Hid (Below w.heap.size w w1) := below_of_alloc' (below_of_alloc' hb1); have BP1 : Hid (Blk w1 w.heap.size #[.int .i64 a, .slice A L cap] 81) := blk_below hb1 ((Blk.new w _ _).alloc _); clear hb1)
    | (go_at_call 51; ((with_reducible refine (HI.out _ (by omega) (HX.out _ HB1.out)).mono ?_)); rintro e w2 ⟨rfl, hb2⟩; obtain ⟨hc2, hz2⟩ := bcell hb2; have s2 : w.heap.size + 1 < w2.heap.size := (by have z := hb2.size; omega); have s2' : w.heap.size < w2.heap.size := (by omega); have HB2 : Hid (Below w.heap.size w w2) := HB1.out.trans (hb2.mono (by omega)); have BP2 : Hid (Blk w2 w.heap.size #[.int .i64 a, .slice A L cap] 81) := blk_below hb2 BP1.out; clear hb2)
    | (go_at_call 69; ((with_reducible refine (HN.out _ (by omega) (HX.out _ HB2.out)).mono ?_)); rintro e w3 ⟨rfl, hb3⟩; obtain ⟨hc3, hz3⟩ := bcell hb3; have s3 : w.heap.size + 1 < w3.heap.size := (by have z := hb3.size; omega); have s3' : w.heap.size < w3.heap.size := (by omega); have HB3 : Hid (Below w.heap.size w w3) := HB2.out.trans (hb3.mono (by omega)); have BP3 : Hid (Blk w3 w.heap.size #[.int .i64 a, .slice A L cap] 81) := blk_below hb3 BP2.out; clear hb3)
    | (go_at_call 55; ((with_reducible refine (HO.out _ (by omega) (HX.out _ HB3.out)).mono ?_)); rintro e w4 ⟨rfl, hb4⟩; obtain ⟨hc4, hz4⟩ := bcell hb4; have s4 : w.heap.size + 1 < w4.heap.size := (by have z := hb4.size; omega); have s4' : w.heap.size < w4.heap.size := (by omega); have HB4 : Hid (Below w.heap.size w w4) := HB3.out.trans (hb4.mono (by omega)); have BP4 : Hid (Blk w4 w.heap.size #[.int .i64 a, .slice A L cap] 81) := blk_below hb4 BP3.out; clear hb4)
    | (go_at_call 70; ((with_reducible refine (HL.out _ (by simp only [World.size_alloc]; omega) (HX.out _ (HB4.out.alloc (by omega) _))).mono ?_)); rintro e w5 ⟨rfl, hb5⟩; obtain ⟨hc5, hz5⟩ := bcell hb5; have s5 : w.heap.size + 1 < w5.heap.size := (by have z := hb5.size; simp only [World.size_alloc] at z; omega); have s5' : w.heap.size < w5.heap.size := (by omega); have s5'' : w4.heap.size < w5.heap.size := (by have z := hb5.size; simp only [World.size_alloc] at z; omega); have HB5 : Hid (Below w.heap.size w w5) := (HB4.out.alloc (by omega) _).trans (hb5.mono (by simp only [World.size_alloc]; omega)); have BP5 : Hid (Blk w5 w.heap.size #[.int .i64 a, .slice A L cap] 81) := blk_below hb5 (BP4.out.alloc _); have BX5 : Hid (Blk w5 w4.heap.size #[.int .i64 d', .int .i64 s', .int .i64 t', .int .i64 y', .string b'] 83) := blk_below hb5 (Blk.new w4 _ _); clear hb5))
  have HT : Hid (TagT w a A L cap w4.heap.size w5.heap.size d' s' t' y' b' (w5.alloc (.cells #[.int .i64 d', .int .i64 s', .int .i64 t', .int .i64 y', .string b'] 83)).drew) :=
    TagT.drew ⟨BP5.out.alloc _, BX5.out.alloc _, Blk.new w5 _ _, HB5.out.alloc (by omega) _⟩
  clear hc1 hz1 hc2 hz2 hc3 hz3 hc4 hz4 hc5 hz5 HB1 HB2 HB3 HB4 HB5 BP1 BP2 BP3 BP4 BP5 BX5 HI HN HO HL H7 s1 s1' s2 s2' s3 s3' s4 s4' s5 s5' s5''
  generalize w4.heap.size = X at HT ⊢
  generalize w5.heap.size = Y at HT ⊢
  generalize w5.alloc (.cells #[.int .i64 d', .int .i64 s', .int .i64 t', .int .i64 y', .string b'] 83) = W6 at HT ⊢
  go_region_held3 (fun W => W.cell? ⟨w.heap.size, 0, none⟩ = some (.int .i64 a) ∧ W.cell? ⟨w.heap.size, 1, none⟩ = some (.slice A L cap) ∧
    W.cell? ⟨X, 0, none⟩ = some (.int .i64 d') ∧ W.cell? ⟨X, 1, none⟩ = some (.int .i64 s') ∧ W.cell? ⟨X, 2, none⟩ = some (.int .i64 t') ∧ W.cell? ⟨X, 3, none⟩ = some (.int .i64 y') ∧ W.cell? ⟨X, 4, none⟩ = some (.string b') ∧
    W.cell? ⟨Y, 0, none⟩ = some (.int .i64 d') ∧ W.cell? ⟨Y, 1, none⟩ = some (.int .i64 s') ∧ W.cell? ⟨Y, 2, none⟩ = some (.int .i64 t') ∧ W.cell? ⟨Y, 3, none⟩ = some (.int .i64 y') ∧ W.cell? ⟨Y, 4, none⟩ = some (.string b') ∧
    Hid (TagT w a A L cap X Y d' s' t' y' b' W)) (exact TagT.cells (Hid.out (by assumption))) ((first
      | (go_at_call 71; ((with_reducible refine (HC.out _ (TagT.below (Hid.out (by assumption))).size (HX.out _ (TagT.below (Hid.out (by assumption))))).mono ?_)); rintro e w7 ⟨rfl, hb7⟩; have HT7 : Hid (TagT w a A L cap X Y d' s' t' y' b' w7) := TagT.next (Hid.out (by assumption)) hb7; clear hb7)
      | (go_at_call 72; ((with_reducible refine (HP.out _ (TagT.below (Hid.out (by assumption))).size (HX.out _ (TagT.below (Hid.out (by assumption))))).mono ?_)); rintro e w8 ⟨rfl, hb8⟩; have HT8 : Hid (TagT w a A L cap X Y d' s' t' y' b' w8) := TagT.next (Hid.out (by assumption)) hb8; clear hb8)))
  go_wp2_with fail
  go_ret
  exact ⟨rfl, HT8.out.below⟩
end Go.Proofs.Ytfeddgeihpfjfaa
