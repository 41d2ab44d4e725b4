/- The law CreditPlays, walked. -/
import Derived.Test.YtfeddgeihpfjfaaCredit
import Derived.Test.YtfeddgeihpfjfaaAt
namespace Go.Proofs.Ytfeddgeihpfjfaa
open Go.RowKit

/-- What holds at the head of a round: the ends and the model of both. -/
structure CI (B : Nat) (w0 wr : World) (a b c d e : Int) : Prop where
  below : Below B w0 wr
  size : B + 4 ≤ wr.heap.size
  giver : Blk wr (B + 1) #[.int .i64 a, .int .i64 b, .int .i64 c] 140
  taker : Blk wr (B + 1 + 1) #[.int .i64 d, .int .i64 e] 142
  ends : Blk wr (B + 1 + 1 + 1) #[.int .i64 a, .int .i64 b, .int .i64 c, .int .i64 d, .int .i64 e] 31

theorem CI.drewN {B : Nat} {w0 wr : World} {a b c d e : Int} (h : CI B w0 wr a b c d e) (n : Nat) : CI B w0 (wr.drewN n) a b c d e :=
  ⟨below_drewN h.below n, h.size, h.giver, h.taker, h.ends⟩
/-- The giver has moved on, and the model's cell i with it. -/
theorem CI.giver_set {B : Nat} {w0 wr w1 : World} {a b c d e b' c' : Int} (h : CI B w0 wr a b c d e) (hf : Fr (· = B + 1) wr w1) (hg : Blk w1 (B + 1) #[.int .i64 a, .int .i64 b', .int .i64 c'] 140) (i : Nat) (v : Value)
    (hv : #[Value.int .i64 a, .int .i64 b, .int .i64 c, .int .i64 d, .int .i64 e].setIfInBounds i v = #[.int .i64 a, .int .i64 b', .int .i64 c', .int .i64 d, .int .i64 e]) :
    CI B w0 (w1.setCell ⟨B + 1 + 1 + 1, i, none⟩ v) a b' c' d e := by
  have hs := h.size
  have hs1 := hf.size
  have h1 := below_fr h.below hf (by omega) (fun k hk => by omega)
  exact ⟨h1.setCell (by show B ≤ B + 1 + 1 + 1; omega) _, by simp [World.setCell]; omega, hg.other (by show B + 1 ≠ B + 1 + 1 + 1; omega) _, (hf.blk h.taker (by omega)).other (by show B + 1 + 1 ≠ B + 1 + 1 + 1; omega) _, hv ▸ (hf.blk h.ends (by omega)).set i v⟩
theorem CI.giver_same {B : Nat} {w0 wr w1 : World} {a b c d e : Int} (h : CI B w0 wr a b c d e) (hf : Fr (· = B + 1) wr w1) (hg : Blk w1 (B + 1) #[.int .i64 a, .int .i64 b, .int .i64 c] 140) : CI B w0 w1 a b c d e := by
  have hs := h.size
  have hs1 := hf.size
  exact ⟨below_fr h.below hf (by omega) (fun k hk => by omega), by omega, hg, hf.blk h.taker (by omega), hf.blk h.ends (by omega)⟩
theorem CI.taker_set {B : Nat} {w0 wr w1 : World} {a b c d e d' e' : Int} (h : CI B w0 wr a b c d e) (hf : Fr (· = B + 1 + 1) wr w1) (hg : Blk w1 (B + 1 + 1) #[.int .i64 d', .int .i64 e'] 142) (i : Nat) (v : Value)
    (hv : #[Value.int .i64 a, .int .i64 b, .int .i64 c, .int .i64 d, .int .i64 e].setIfInBounds i v = #[.int .i64 a, .int .i64 b, .int .i64 c, .int .i64 d', .int .i64 e']) :
    CI B w0 (w1.setCell ⟨B + 1 + 1 + 1, i, none⟩ v) a b c d' e' := by
  have hs := h.size
  have hs1 := hf.size
  have h1 := below_fr h.below hf (by omega) (fun k hk => by omega)
  exact ⟨h1.setCell (by show B ≤ B + 1 + 1 + 1; omega) _, by simp [World.setCell]; omega, (hf.blk h.giver (by omega)).other (by show B + 1 ≠ B + 1 + 1 + 1; omega) _, hg.other (by show B + 1 + 1 ≠ B + 1 + 1 + 1; omega) _, hv ▸ (hf.blk h.ends (by omega)).set i v⟩
theorem CI.taker_same {B : Nat} {w0 wr w1 : World} {a b c d e : Int} (h : CI B w0 wr a b c d e) (hf : Fr (· = B + 1 + 1) wr w1) (hg : Blk w1 (B + 1 + 1) #[.int .i64 d, .int .i64 e] 142) : CI B w0 w1 a b c d e := by
  have hs := h.size
  have hs1 := hf.size
  exact ⟨below_fr h.below hf (by omega) (fun k hk => by omega), by omega, hf.blk h.giver (by omega), hg, hf.blk h.ends (by omega)⟩

attribute [local go_sem] min_ints max_ints

set_option maxRecDepth 100000 in
set_option maxHeartbeats 4000000 in
theorem credit_law (w : World) (room : Int) (_ : I64 room) (A : Option Addr) (cap : Nat) (ls : List (List Int)) (hl : Rows2 w.heap.size w A ls) (hcap : ls.length ≤ cap) (_ : cap ≤ maxLen) :
    Calls Try.prog 3 #[.int .i64 room, .slice A ls.length cap] w fun e w' => e = .returned (.bool true) ∧ Below w.heap.size w w' := by
  have HL := Lib.hid hl
  have hlen := hl.1
  clear hl
  have gr0 : ∀ W : World, Blk W w.heap.size #[.int .i64 10, .int .i64 0, .int .i64 0] 140 → Calls Try.prog 16 #[.pointer (some ⟨w.heap.size, 0, none⟩)] W fun e w' => e = .returned (.int .i64 10) ∧ ∃ m, w' = W.drewN m := fun W h => by simpa [wrap64] using grant_any w.heap.size 10 0 0 W h
  have GR0 := Lib.hid gr0
  clear gr0
  by_cases hr : 1 ≤ room ∧ room ≤ 1000000
  · obtain ⟨hr1, hr2⟩ := hr
    go_enter Try.func3, Try.ntmps3
    go_wp2_with (first
      | (go_at_call 15; ((with_reducible refine (newgiver_ok 10 _ (by omega) (by omega)).mono ?_)); rintro e w1 ⟨rfl, rfl⟩)
      | (go_at_call 15; ((with_reducible refine (newgiver_ok room _ hr1 hr2).mono ?_)); rintro e w1 ⟨rfl, rfl⟩)
      | (go_at_call 16; ((with_reducible refine (GR0.out _ (Blk.new w _ _)).mono ?_)); rintro e w1 ⟨rfl, n1, rfl⟩)
      | (go_at_call 17; ((with_reducible refine (newtaker_any _).mono ?_)); rintro e w1 ⟨rfl, rfl⟩))
    generalize hN : (min (ls.length : Int) 100) = N
    have hN1 : N ≤ ls.length := by omega
    have hN0 : 0 ≤ N := by omega
    clear hN
    obtain ⟨n, rfl⟩ := Int.eq_ofNat_of_zero_le hN0
    have hn : n ≤ ls.length := by omega
    clear hN0 hN1
    try simp only [Int.toNat_natCast]
    rw [show max (n : Int) 0 = n from by omega]
    have HS : Hid (∀ W : World, Below w.heap.size w W → Rows2 w.heap.size W A ls) := fun W h => HL.out.below h
    clear GR0
    have HST : Hid (CI w.heap.size w ((((w.alloc (.cells #[.int .i64 10, .int .i64 0, .int .i64 0] 140)).drewN n1).alloc (.cells #[.int .i64 room, .int .i64 0, .int .i64 0] 140)).alloc (.cells #[.int .i64 0, .int .i64 0] 142) |>.alloc (.cells #[.int .i64 room, .int .i64 0, .int .i64 0, .int .i64 0, .int .i64 0] 31)) room 0 0 0 0) := by
      refine ⟨?_, by simp, ?_, ?_, ?_⟩
      · exact (((below_drewN ((Below.refl _ _).alloc (Nat.le_refl _) _) _).alloc (by simp) _).alloc (by simp; omega) _).alloc (by simp; omega) _
      · have h := Blk.new ((w.alloc (.cells #[.int .i64 10, .int .i64 0, .int .i64 0] 140)).drewN n1) #[.int .i64 room, .int .i64 0, .int .i64 0] 140
        simp only [World.heap_drewN, World.size_alloc] at h
        exact (h.alloc _).alloc _
      · have h := Blk.new (((w.alloc (.cells #[.int .i64 10, .int .i64 0, .int .i64 0] 140)).drewN n1).alloc (.cells #[.int .i64 room, .int .i64 0, .int .i64 0] 140)) #[.int .i64 0, .int .i64 0] 142
        simp only [World.heap_drewN, World.size_alloc] at h
        exact h.alloc _
      · have h := Blk.new ((((w.alloc (.cells #[.int .i64 10, .int .i64 0, .int .i64 0] 140)).drewN n1).alloc (.cells #[.int .i64 room, .int .i64 0, .int .i64 0] 140)).alloc (.cells #[.int .i64 0, .int .i64 0] 142)) #[.int .i64 room, .int .i64 0, .int .i64 0, .int .i64 0, .int .i64 0] 31
        simp only [World.heap_drewN, World.size_alloc] at h
        exact h
    generalize hB : w.heap.size = B at *
    have hB1 := Lib.hid hB
    clear hB
    go_loopw [8, 66] (fun e8 i W => ∃ (k : Nat) (b c d e x8 : Int), k ≤ n ∧ i = .int .i64 k ∧ e8 = .int .i64 x8 ∧ CI B w W room b c d e) (fun _ i _ => n - (intOf i).toNat)
    case atStart => exact ⟨0, 0, 0, 0, 0, 0, by omega, rfl, rfl, HST.out⟩
    case round =>
      clear HST
      obtain ⟨k, b, c, d, e, x8, hk, rfl, rfl, hci⟩ := hrel
      by_cases hlt : k < n
      · obtain ⟨ad, rfl, hadB, hrow⟩ := (HS.out wr hci.below).2 (by omega)
        obtain ⟨A', c0, hcell, hints⟩ := hrow k (by omega)
        clear hrow
        generalize hxs : ls.getD k [] = xs at hcell hints
        clear hxs
        have HAT : Hid (∀ (i : Int) (j : Nat) (W : World), i = j → j < 1000 → Below B wr W → Calls Try.prog 18 #[.slice A' xs.length c0, .int .i64 i] W fun e w' => e = .returned (.int .i64 (xs.getD j 0)) ∧ W = w') := fun i j W h1 h2 h3 => at_any (B := B) A' xs c0 i j h1 h2 W (hints.below h3)
        clear hints
        have HC := Lib.hid hci
        clear hci
        generalize hop : xs.getD 0 0 = op
        generalize hn1 : xs.getD 1 0 = num
        have A0 : Hid (∀ W : World, Below B wr W → Calls Try.prog 18 #[.slice A' xs.length c0, .int .i64 0] W fun e w' => e = .returned (.int .i64 op) ∧ W = w') := fun W h => hop ▸ HAT.out 0 0 W rfl (by omega) h
        have A1 : Hid (∀ W : World, Below B wr W → Calls Try.prog 18 #[.slice A' xs.length c0, .int .i64 1] W fun e w' => e = .returned (.int .i64 num) ∧ W = w') := fun W h => hn1 ▸ HAT.out 1 1 W rfl (by omega) h
        clear HAT hop hn1
        go_upto_block 2 with (first
          | (go_at_call 18; ((with_reducible refine (A0.out _ (Below.refl _ _)).mono ?_)); rintro e1 w1 ⟨rfl, rfl⟩)
          | (go_at_call 18; ((with_reducible refine (A1.out _ (Below.refl _ _)).mono ?_)); rintro e1 w1 ⟨rfl, rfl⟩))
        go_cut [8, 14, 15, 16] (fun e8 k14 w15 m16 W => ∃ (kk ee want b1 c1 d1 e1 : Int), e8 = .int .i64 ee ∧ k14 = .int .i64 kk ∧ m16 = .int .i64 kk ∧ w15 = .int .i64 want ∧ (op < 0 ∨ 4 ≤ op ∨ (0 ≤ op ∧ op < 4 ∧ ee = want)) ∧ Hid (CI B w W room b1 c1 d1 e1) ∧ Hid (Below B wr W))
        case first =>
          clear A1 HS HL
          have m0 := HC.out.ends.cell 0 rfl
          have m1 := HC.out.ends.cell 1 rfl
          have m2 := HC.out.ends.cell 2 rfl
          have m3 := HC.out.ends.cell 3 rfl
          have m4 := HC.out.ends.cell 4 rfl
          by_cases o : op = 0
          · rcases Int.lt_or_le num 0 with n0 | n0
            · have q0 : (op == 0) = true := by simp [o]
              have HO := Lib.hid o
              clear o
              have HI : Hid (Calls Try.prog 19 #[.pointer (some ⟨B + 1, 0, none⟩), .int .i64 num] wr fun e9 w9 => e9 = .returned (.int .i64 1) ∧ Blk w9 (B + 1) #[.int .i64 room, .int .i64 b, .int .i64 c] 140 ∧ Fr (· = B + 1) wr w9) := by
                have h := in_any (B + 1) room b c num wr HC.out.giver; refine Lib.hid ?_; simpa [inS, n0] using h
              clear m0 m1 m2 m3 m4
              go_wp2_with (first
                | (go_at_call 18; ((with_reducible refine (A0.out _ (Below.refl _ _)).mono ?_)); rintro e9 w9 ⟨rfl, rfl⟩)
                | (go_at_call 19; ((with_reducible refine HI.out.mono ?_)); rintro e9 w9 ⟨rfl, hg9, hf9⟩; have HG := Lib.hid hg9; have HF := Lib.hid hf9; have hm9 := hf9.blk HC.out.ends (by omega); clear hg9 hf9; have p0 := hm9.cell 0 rfl; have p1 := hm9.cell 1 rfl; have p2 := hm9.cell 2 rfl; have p3 := hm9.cell 3 rfl; have p4 := hm9.cell 4 rfl; have f0 := hm9.free 0; have f1 := hm9.free 1; have f2 := hm9.free 2; have f3 := hm9.free 3; have f4 := hm9.free 4; clear hm9))
              all_goals (go_meet; exact ⟨0, 1, 1, b, c, d, e, rfl, rfl, rfl, rfl, .inr (.inr ⟨by have := HO.out; omega, by have := HO.out; omega, rfl⟩), HC.out.giver_same HF.out HG.out, (below_fr (Below.refl _ _) HF.out (by have := HC.out.size; omega) (fun k hk => by omega))⟩)
            · by_cases n1 : wrap64 (wrap64 (room + c) - b) < num
              · have q0 : (op == 0) = true := by simp [o]
                have HO := Lib.hid o
                clear o
                have HI : Hid (Calls Try.prog 19 #[.pointer (some ⟨B + 1, 0, none⟩), .int .i64 num] wr fun e9 w9 => e9 = .returned (.int .i64 5) ∧ Blk w9 (B + 1) #[.int .i64 room, .int .i64 b, .int .i64 c] 140 ∧ Fr (· = B + 1) wr w9) := by
                  have h := in_any (B + 1) room b c num wr HC.out.giver; refine Lib.hid ?_; simpa [inS, show ¬ num < 0 by omega, n1] using h
                clear m0 m1 m2 m3 m4
                go_wp2_with (first
                  | (go_at_call 18; ((with_reducible refine (A0.out _ (Below.refl _ _)).mono ?_)); rintro e9 w9 ⟨rfl, rfl⟩)
                  | (go_at_call 19; ((with_reducible refine HI.out.mono ?_)); rintro e9 w9 ⟨rfl, hg9, hf9⟩; have HG := Lib.hid hg9; have HF := Lib.hid hf9; have hm9 := hf9.blk HC.out.ends (by omega); clear hg9 hf9; have p0 := hm9.cell 0 rfl; have p1 := hm9.cell 1 rfl; have p2 := hm9.cell 2 rfl; have p3 := hm9.cell 3 rfl; have p4 := hm9.cell 4 rfl; have f0 := hm9.free 0; have f1 := hm9.free 1; have f2 := hm9.free 2; have f3 := hm9.free 3; have f4 := hm9.free 4; clear hm9))
                all_goals (go_meet; exact ⟨0, 5, 5, b, c, d, e, rfl, rfl, rfl, rfl, .inr (.inr ⟨by have := HO.out; omega, by have := HO.out; omega, rfl⟩), HC.out.giver_same HF.out HG.out, (below_fr (Below.refl _ _) HF.out (by have := HC.out.size; omega) (fun k hk => by omega))⟩)
              · have q0 : (op == 0) = true := by simp [o]
                have HO := Lib.hid o
                clear o
                have HI : Hid (Calls Try.prog 19 #[.pointer (some ⟨B + 1, 0, none⟩), .int .i64 num] wr fun e9 w9 => e9 = .returned (.int .i64 0) ∧ Blk w9 (B + 1) #[.int .i64 room, .int .i64 (wrap64 (b + num)), .int .i64 c] 140 ∧ Fr (· = B + 1) wr w9) := by
                  have h := in_any (B + 1) room b c num wr HC.out.giver; refine Lib.hid ?_; simpa [inS, show ¬ num < 0 by omega, n1] using h
                clear m0 m1 m2 m3 m4
                go_wp2_with (first
                  | (go_at_call 18; ((with_reducible refine (A0.out _ (Below.refl _ _)).mono ?_)); rintro e9 w9 ⟨rfl, rfl⟩)
                  | (go_at_call 19; ((with_reducible refine HI.out.mono ?_)); rintro e9 w9 ⟨rfl, hg9, hf9⟩; have HG := Lib.hid hg9; have HF := Lib.hid hf9; have hm9 := hf9.blk HC.out.ends (by omega); clear hg9 hf9; have p0 := hm9.cell 0 rfl; have p1 := hm9.cell 1 rfl; have p2 := hm9.cell 2 rfl; have p3 := hm9.cell 3 rfl; have p4 := hm9.cell 4 rfl; have f0 := hm9.free 0; have f1 := hm9.free 1; have f2 := hm9.free 2; have f3 := hm9.free 3; have f4 := hm9.free 4; clear hm9))
                all_goals (go_meet; exact ⟨0, 0, 0, _, c, d, e, rfl, rfl, rfl, rfl, .inr (.inr ⟨by have := HO.out; omega, by have := HO.out; omega, rfl⟩), HC.out.giver_set HF.out HG.out 1 _ rfl, (below_fr (Below.refl _ _) HF.out (by have := HC.out.size; omega) (fun k hk => by omega)).setCell (by show B ≤ B + 1 + 1 + 1; omega) _⟩)
          · by_cases o1 : op = 1
            · rcases Int.lt_or_le num 0 with n0 | n0
              · have q0 : (op == 0) = false := by simp; omega
                have q1 : (op == 1) = true := by simp; omega
                have HO : Hid (op = 1) := by show op = 1; omega
                clear o o1
                have HI : Hid (Calls Try.prog 20 #[.pointer (some ⟨B + 1, 0, none⟩), .int .i64 num] wr fun e9 w9 => e9 = .returned (.tuple #[.int .i64 0, .int .i64 1]) ∧ Blk w9 (B + 1) #[.int .i64 room, .int .i64 b, .int .i64 c] 140 ∧ Fr (· = B + 1) wr w9) := by
                  exact (take_bad (B + 1) num wr n0).mono fun _ _ ⟨h1, h2⟩ => ⟨h1, by subst h2; exact HC.out.giver, by subst h2; exact Fr.refl _ _⟩
                clear m0 m1 m2 m3 m4
                go_wp2_with (first
                  | (go_at_call 18; ((with_reducible refine (A0.out _ (Below.refl _ _)).mono ?_)); rintro e9 w9 ⟨rfl, rfl⟩)
                  | (go_at_call 20; ((with_reducible refine HI.out.mono ?_)); rintro e9 w9 ⟨rfl, hg9, hf9⟩; have HG := Lib.hid hg9; have HF := Lib.hid hf9; have hm9 := hf9.blk HC.out.ends (by omega); clear hg9 hf9; have p0 := hm9.cell 0 rfl; have p1 := hm9.cell 1 rfl; have p2 := hm9.cell 2 rfl; have p3 := hm9.cell 3 rfl; have p4 := hm9.cell 4 rfl; have f0 := hm9.free 0; have f1 := hm9.free 1; have f2 := hm9.free 2; have f3 := hm9.free 3; have f4 := hm9.free 4; clear hm9))
                all_goals (go_meet; exact ⟨0, 1, 1, b, c, d, e, rfl, rfl, rfl, rfl, .inr (.inr ⟨by have := HO.out; omega, by have := HO.out; omega, rfl⟩), HC.out.giver_same HF.out HG.out, (below_fr (Below.refl _ _) HF.out (by have := HC.out.size; omega) (fun k hk => by omega))⟩)
              · have q0 : (op == 0) = false := by simp; omega
                have q1 : (op == 1) = true := by simp; omega
                have HO : Hid (op = 1) := by show op = 1; omega
                clear o o1
                have HI : Hid (Calls Try.prog 20 #[.pointer (some ⟨B + 1, 0, none⟩), .int .i64 num] wr fun e9 w9 => e9 = .returned (.tuple #[.int .i64 (min num (wrap64 (b - c))), .int .i64 0]) ∧ Blk w9 (B + 1) #[.int .i64 room, .int .i64 b, .int .i64 (wrap64 (c + min num (wrap64 (b - c))))] 140 ∧ Fr (· = B + 1) wr w9) := by
                  exact take_ok (B + 1) room b c num wr n0 HC.out.giver
                clear m0 m1 m2 m3 m4
                go_wp2_with (first
                  | (go_at_call 18; ((with_reducible refine (A0.out _ (Below.refl _ _)).mono ?_)); rintro e9 w9 ⟨rfl, rfl⟩)
                  | (go_at_call 20; ((with_reducible refine HI.out.mono ?_)); rintro e9 w9 ⟨rfl, hg9, hf9⟩; have HG := Lib.hid hg9; have HF := Lib.hid hf9; have hm9 := hf9.blk HC.out.ends (by omega); clear hg9 hf9; have p0 := hm9.cell 0 rfl; have p1 := hm9.cell 1 rfl; have p2 := hm9.cell 2 rfl; have p3 := hm9.cell 3 rfl; have p4 := hm9.cell 4 rfl; have f0 := hm9.free 0; have f1 := hm9.free 1; have f2 := hm9.free 2; have f3 := hm9.free 3; have f4 := hm9.free 4; clear hm9))
                all_goals (go_meet; exact ⟨_, 0, 0, b, _, d, e, rfl, rfl, rfl, rfl, .inr (.inr ⟨by have := HO.out; omega, by have := HO.out; omega, rfl⟩), HC.out.giver_set HF.out HG.out 2 _ rfl, (below_fr (Below.refl _ _) HF.out (by have := HC.out.size; omega) (fun k hk => by omega)).setCell (by show B ≤ B + 1 + 1 + 1; omega) _⟩)
            · by_cases o2 : op = 2
              · rcases Int.lt_or_le num 0 with n0 | n0
                · have q0 : (op == 0) = false := by simp; omega
                  have q1 : (op == 1) = false := by simp; omega
                  have q2 : (op == 2) = true := by simp; omega
                  have HO : Hid (op = 2) := by show op = 2; omega
                  clear o o1 o2
                  have HI : Hid (Calls Try.prog 21 #[.pointer (some ⟨B + 1 + 1, 0, none⟩), .int .i64 num] wr fun e9 w9 => e9 = .returned (.int .i64 1) ∧ Blk w9 (B + 1 + 1) #[.int .i64 d, .int .i64 e] 142 ∧ Fr (· = B + 1 + 1) wr w9) := by
                    have h := hear_any (B + 1 + 1) d e num wr HC.out.taker; refine Lib.hid ?_; simpa [hearS, n0] using h
                  clear m0 m1 m2 m3 m4
                  go_wp2_with (first
                    | (go_at_call 18; ((with_reducible refine (A0.out _ (Below.refl _ _)).mono ?_)); rintro e9 w9 ⟨rfl, rfl⟩)
                    | (go_at_call 21; ((with_reducible refine HI.out.mono ?_)); rintro e9 w9 ⟨rfl, hg9, hf9⟩; have HG := Lib.hid hg9; have HF := Lib.hid hf9; have hm9 := hf9.blk HC.out.ends (by omega); clear hg9 hf9; have p0 := hm9.cell 0 rfl; have p1 := hm9.cell 1 rfl; have p2 := hm9.cell 2 rfl; have p3 := hm9.cell 3 rfl; have p4 := hm9.cell 4 rfl; have f0 := hm9.free 0; have f1 := hm9.free 1; have f2 := hm9.free 2; have f3 := hm9.free 3; have f4 := hm9.free 4; clear hm9))
                  all_goals (go_meet; exact ⟨0, 1, 1, b, c, d, e, rfl, rfl, rfl, rfl, .inr (.inr ⟨by have := HO.out; omega, by have := HO.out; omega, rfl⟩), HC.out.taker_same HF.out HG.out, (below_fr (Below.refl _ _) HF.out (by have := HC.out.size; omega) (fun k hk => by omega))⟩)
                · by_cases n1 : num < d
                  · have q0 : (op == 0) = false := by simp; omega
                    have q1 : (op == 1) = false := by simp; omega
                    have q2 : (op == 2) = true := by simp; omega
                    have HO : Hid (op = 2) := by show op = 2; omega
                    clear o o1 o2
                    have HI : Hid (Calls Try.prog 21 #[.pointer (some ⟨B + 1 + 1, 0, none⟩), .int .i64 num] wr fun e9 w9 => e9 = .returned (.int .i64 13) ∧ Blk w9 (B + 1 + 1) #[.int .i64 d, .int .i64 e] 142 ∧ Fr (· = B + 1 + 1) wr w9) := by
                      have h := hear_any (B + 1 + 1) d e num wr HC.out.taker; refine Lib.hid ?_; simpa [hearS, show ¬ num < 0 by omega, n1] using h
                    clear m0 m1 m2 m3 m4
                    go_wp2_with (first
                      | (go_at_call 18; ((with_reducible refine (A0.out _ (Below.refl _ _)).mono ?_)); rintro e9 w9 ⟨rfl, rfl⟩)
                      | (go_at_call 21; ((with_reducible refine HI.out.mono ?_)); rintro e9 w9 ⟨rfl, hg9, hf9⟩; have HG := Lib.hid hg9; have HF := Lib.hid hf9; have hm9 := hf9.blk HC.out.ends (by omega); clear hg9 hf9; have p0 := hm9.cell 0 rfl; have p1 := hm9.cell 1 rfl; have p2 := hm9.cell 2 rfl; have p3 := hm9.cell 3 rfl; have p4 := hm9.cell 4 rfl; have f0 := hm9.free 0; have f1 := hm9.free 1; have f2 := hm9.free 2; have f3 := hm9.free 3; have f4 := hm9.free 4; clear hm9))
                    all_goals (go_meet; exact ⟨0, 13, 13, b, c, d, e, rfl, rfl, rfl, rfl, .inr (.inr ⟨by have := HO.out; omega, by have := HO.out; omega, rfl⟩), HC.out.taker_same HF.out HG.out, (below_fr (Below.refl _ _) HF.out (by have := HC.out.size; omega) (fun k hk => by omega))⟩)
                  · have q0 : (op == 0) = false := by simp; omega
                    have q1 : (op == 1) = false := by simp; omega
                    have q2 : (op == 2) = true := by simp; omega
                    have HO : Hid (op = 2) := by show op = 2; omega
                    clear o o1 o2
                    have HI : Hid (Calls Try.prog 21 #[.pointer (some ⟨B + 1 + 1, 0, none⟩), .int .i64 num] wr fun e9 w9 => e9 = .returned (.int .i64 0) ∧ Blk w9 (B + 1 + 1) #[.int .i64 num, .int .i64 e] 142 ∧ Fr (· = B + 1 + 1) wr w9) := by
                      have h := hear_any (B + 1 + 1) d e num wr HC.out.taker; refine Lib.hid ?_; simpa [hearS, show ¬ num < 0 by omega, n1] using h
                    clear m0 m1 m2 m3 m4
                    go_wp2_with (first
                      | (go_at_call 18; ((with_reducible refine (A0.out _ (Below.refl _ _)).mono ?_)); rintro e9 w9 ⟨rfl, rfl⟩)
                      | (go_at_call 21; ((with_reducible refine HI.out.mono ?_)); rintro e9 w9 ⟨rfl, hg9, hf9⟩; have HG := Lib.hid hg9; have HF := Lib.hid hf9; have hm9 := hf9.blk HC.out.ends (by omega); clear hg9 hf9; have p0 := hm9.cell 0 rfl; have p1 := hm9.cell 1 rfl; have p2 := hm9.cell 2 rfl; have p3 := hm9.cell 3 rfl; have p4 := hm9.cell 4 rfl; have f0 := hm9.free 0; have f1 := hm9.free 1; have f2 := hm9.free 2; have f3 := hm9.free 3; have f4 := hm9.free 4; clear hm9))
                    all_goals (go_meet; exact ⟨0, 0, 0, b, c, _, e, rfl, rfl, rfl, rfl, .inr (.inr ⟨by have := HO.out; omega, by have := HO.out; omega, rfl⟩), HC.out.taker_set HF.out HG.out 3 _ rfl, (below_fr (Below.refl _ _) HF.out (by have := HC.out.size; omega) (fun k hk => by omega)).setCell (by show B ≤ B + 1 + 1 + 1; omega) _⟩)
              · by_cases o3 : op = 3
                · rcases Int.lt_or_le num 0 with n0 | n0
                  · have q0 : (op == 0) = false := by simp; omega
                    have q1 : (op == 1) = false := by simp; omega
                    have q2 : (op == 2) = false := by simp; omega
                    have q3 : (op == 3) = true := by simp; omega
                    have HO : Hid (op = 3) := by show op = 3; omega
                    clear o o1 o2 o3
                    have HI : Hid (Calls Try.prog 22 #[.pointer (some ⟨B + 1 + 1, 0, none⟩), .int .i64 num] wr fun e9 w9 => e9 = .returned (.tuple #[.int .i64 0, .int .i64 1]) ∧ Blk w9 (B + 1 + 1) #[.int .i64 d, .int .i64 e] 142 ∧ Fr (· = B + 1 + 1) wr w9) := by
                      exact (send_bad (B + 1 + 1) num wr n0).mono fun _ _ ⟨h1, h2⟩ => ⟨h1, by subst h2; exact HC.out.taker, by subst h2; exact Fr.refl _ _⟩
                    clear m0 m1 m2 m3 m4
                    go_wp2_with (first
                      | (go_at_call 18; ((with_reducible refine (A0.out _ (Below.refl _ _)).mono ?_)); rintro e9 w9 ⟨rfl, rfl⟩)
                      | (go_at_call 22; ((with_reducible refine HI.out.mono ?_)); rintro e9 w9 ⟨rfl, hg9, hf9⟩; have HG := Lib.hid hg9; have HF := Lib.hid hf9; have hm9 := hf9.blk HC.out.ends (by omega); clear hg9 hf9; have p0 := hm9.cell 0 rfl; have p1 := hm9.cell 1 rfl; have p2 := hm9.cell 2 rfl; have p3 := hm9.cell 3 rfl; have p4 := hm9.cell 4 rfl; have f0 := hm9.free 0; have f1 := hm9.free 1; have f2 := hm9.free 2; have f3 := hm9.free 3; have f4 := hm9.free 4; clear hm9))
                    all_goals (go_meet; exact ⟨0, 1, 1, b, c, d, e, rfl, rfl, rfl, rfl, .inr (.inr ⟨by have := HO.out; omega, by have := HO.out; omega, rfl⟩), HC.out.taker_same HF.out HG.out, (below_fr (Below.refl _ _) HF.out (by have := HC.out.size; omega) (fun k hk => by omega))⟩)
                  · have q0 : (op == 0) = false := by simp; omega
                    have q1 : (op == 1) = false := by simp; omega
                    have q2 : (op == 2) = false := by simp; omega
                    have q3 : (op == 3) = true := by simp; omega
                    have HO : Hid (op = 3) := by show op = 3; omega
                    clear o o1 o2 o3
                    have HI : Hid (Calls Try.prog 22 #[.pointer (some ⟨B + 1 + 1, 0, none⟩), .int .i64 num] wr fun e9 w9 => e9 = .returned (.tuple #[.int .i64 (min num (wrap64 (d - e))), .int .i64 0]) ∧ Blk w9 (B + 1 + 1) #[.int .i64 d, .int .i64 (wrap64 (e + min num (wrap64 (d - e))))] 142 ∧ Fr (· = B + 1 + 1) wr w9) := by
                      exact send_ok (B + 1 + 1) d e num wr n0 HC.out.taker
                    clear m0 m1 m2 m3 m4
                    go_wp2_with (first
                      | (go_at_call 18; ((with_reducible refine (A0.out _ (Below.refl _ _)).mono ?_)); rintro e9 w9 ⟨rfl, rfl⟩)
                      | (go_at_call 22; ((with_reducible refine HI.out.mono ?_)); rintro e9 w9 ⟨rfl, hg9, hf9⟩; have HG := Lib.hid hg9; have HF := Lib.hid hf9; have hm9 := hf9.blk HC.out.ends (by omega); clear hg9 hf9; have p0 := hm9.cell 0 rfl; have p1 := hm9.cell 1 rfl; have p2 := hm9.cell 2 rfl; have p3 := hm9.cell 3 rfl; have p4 := hm9.cell 4 rfl; have f0 := hm9.free 0; have f1 := hm9.free 1; have f2 := hm9.free 2; have f3 := hm9.free 3; have f4 := hm9.free 4; clear hm9))
                    all_goals (go_meet; exact ⟨_, 0, 0, b, c, d, _, rfl, rfl, rfl, rfl, .inr (.inr ⟨by have := HO.out; omega, by have := HO.out; omega, rfl⟩), HC.out.taker_set HF.out HG.out 4 _ rfl, (below_fr (Below.refl _ _) HF.out (by have := HC.out.size; omega) (fun k hk => by omega)).setCell (by show B ≤ B + 1 + 1 + 1; omega) _⟩)
                · have HO : Hid (op < 0 ∨ 4 ≤ op) := by show op < 0 ∨ 4 ≤ op; omega
                  have q0 : (op == 0) = false := by simp; omega
                  have q1 : (op == 1) = false := by simp; omega
                  have q2 : (op == 2) = false := by simp; omega
                  have q3 : (op == 3) = false := by simp; omega
                  clear o o1 o2 o3 m0 m1 m2 m3 m4
                  go_wp2_with (go_at_call 18; ((with_reducible refine (A0.out _ (Below.refl _ _)).mono ?_)); rintro e9 w9 ⟨rfl, rfl⟩)
                  go_meet
                  exact ⟨0, _, 0, b, c, d, e, rfl, rfl, rfl, rfl, (by rcases HO.out with h | h; exact .inl h; exact .inr (.inl h)), HC.out, Below.refl _ _⟩
        case rest =>
          obtain ⟨kk, ee, want, b1, c1, d1, e1, rfl, rfl, rfl, rfl, hor, HC1, HX⟩ := hcut
          clear HC
          have hg : Hid (∀ N : Nat, Calls Try.prog 16 #[.pointer (some ⟨B + 1, 0, none⟩)] (wc.drewN N) fun e w' => e = .returned (.int .i64 (wrap64 (room + c1))) ∧ ∃ n, w' = (wc.drewN N).drewN n) := fun N => grant_any _ _ _ _ _ HC1.out.giver
          have hh : Hid (∀ N : Nat, Calls Try.prog 23 #[.pointer (some ⟨B + 1, 0, none⟩)] (wc.drewN N) fun e w' => e = .returned (.int .i64 (wrap64 (b1 - c1))) ∧ ∃ n, w' = (wc.drewN N).drewN n) := fun N => held_any _ _ _ _ _ HC1.out.giver
          have hs : Hid (∀ N : Nat, Calls Try.prog 24 #[.pointer (some ⟨B + 1 + 1, 0, none⟩)] (wc.drewN N) fun e w' => e = .returned (.int .i64 e1) ∧ ∃ n, w' = (wc.drewN N).drewN n) := fun N => sent_any _ _ _ _ HC1.out.taker
          have ha : Hid (∀ N : Nat, Calls Try.prog 18 #[.slice A' xs.length c0, .int .i64 0] (wc.drewN N) fun e w' => e = .returned (.int .i64 op) ∧ (wc.drewN N) = w') := fun N => A0.out _ (below_drewN HX.out N)
          have m0 := HC1.out.ends.cell 0 rfl
          have m1 := HC1.out.ends.cell 1 rfl
          have m2 := HC1.out.ends.cell 2 rfl
          have m3 := HC1.out.ends.cell 3 rfl
          have m4 := HC1.out.ends.cell 4 rfl
          clear A0 A1 HS HL HX hcell
          rcases hor with o | o | ⟨o1, o2, rfl⟩
          · have q2 : decide (0 ≤ op) = false := by simpa using o
            go_wp2_with (fail)
            go_quiet (first
              | (go_at_call 18; exact quiet_eq (ha.out _))
              | (go_at_call 16; exact Calls.quiet_of (hg.out _))
              | (go_at_call 23; exact Calls.quiet_of (hh.out _))
              | (go_at_call 24; exact Calls.quiet_of (hs.out _)))
            go_wp2
            go_roundw
            case rel => exact ⟨k + 1, b1, c1, d1, e1, _, by omega, by go_num, rfl, HC1.out.drewN _⟩
            case measure => simp [intOf]; omega
          · have q2 : decide (0 ≤ op) = true := by simp; omega
            have q3 : decide (op < 4) = false := by simpa using o
            go_wp2_with (fail)
            go_quiet (first
              | (go_at_call 18; exact quiet_eq (ha.out _))
              | (go_at_call 16; exact Calls.quiet_of (hg.out _))
              | (go_at_call 23; exact Calls.quiet_of (hh.out _))
              | (go_at_call 24; exact Calls.quiet_of (hs.out _)))
            go_wp2
            go_roundw
            case rel => exact ⟨k + 1, b1, c1, d1, e1, _, by omega, by go_num, rfl, HC1.out.drewN _⟩
            case measure => simp [intOf]; omega
          · have q2 : decide (0 ≤ op) = true := by simpa using o1
            have q3 : decide (op < 4) = true := by simpa using o2
            go_wp2_with (fail)
            go_quiet (first
              | (go_at_call 18; exact quiet_eq (ha.out _))
              | (go_at_call 16; exact Calls.quiet_of (hg.out _))
              | (go_at_call 23; exact Calls.quiet_of (hh.out _))
              | (go_at_call 24; exact Calls.quiet_of (hs.out _)))
            go_wp2
            go_roundw
            case rel => exact ⟨k + 1, b1, c1, d1, e1, _, by omega, by go_num, rfl, HC1.out.drewN _⟩
            case measure => simp [intOf]; omega
      · go_wp2
        go_ret
        exact ⟨rfl, hB1.out ▸ hci.below⟩
  · have hr' : room < 1 ∨ 1000000 < room := by omega
    rcases hr' with hr' | hr'
    · clear hr
      go_enter Try.func3, Try.ntmps3
      go_wp2_with (first
        | (go_at_call 15; ((with_reducible refine (newgiver_ok 10 _ (by omega) (by omega)).mono ?_)); rintro e w1 ⟨rfl, rfl⟩)
        | (go_at_call 15; ((with_reducible refine (newgiver_bad room _ (by omega)).mono ?_)); rintro e w1 ⟨rfl, rfl⟩)
        | (go_at_call 16; ((with_reducible refine (GR0.out _ (Blk.new w _ _)).mono ?_)); rintro e w1 ⟨rfl, n1, rfl⟩)
        | (go_at_call 17; ((with_reducible refine (newtaker_any _).mono ?_)); rintro e w1 ⟨rfl, rfl⟩))
      go_ret
      exact ⟨rfl, (below_drewN ((Below.refl _ _).alloc (Nat.le_refl _) _) _).alloc (by simp) _⟩
    · have hr'' : 1 ≤ room := by omega
      clear hr
      go_enter Try.func3, Try.ntmps3
      go_wp2_with (first
        | (go_at_call 15; ((with_reducible refine (newgiver_ok 10 _ (by omega) (by omega)).mono ?_)); rintro e w1 ⟨rfl, rfl⟩)
        | (go_at_call 15; ((with_reducible refine (newgiver_bad room _ (by omega)).mono ?_)); rintro e w1 ⟨rfl, rfl⟩)
        | (go_at_call 16; ((with_reducible refine (GR0.out _ (Blk.new w _ _)).mono ?_)); rintro e w1 ⟨rfl, n1, rfl⟩)
        | (go_at_call 17; ((with_reducible refine (newtaker_any _).mono ?_)); rintro e w1 ⟨rfl, rfl⟩))
      go_ret
      exact ⟨rfl, (below_drewN ((Below.refl _ _).alloc (Nat.le_refl _) _) _).alloc (by simp) _⟩
end Go.Proofs.Ytfeddgeihpfjfaa
