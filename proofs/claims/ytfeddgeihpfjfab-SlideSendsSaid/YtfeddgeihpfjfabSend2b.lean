/- The reference's sending end: Out. -/
import Derived.Test.YtfeddgeihpfjfabSend2
set_option linter.unusedVariables false
set_option linter.unusedSimpArgs false
namespace Go.Proofs.Ytfeddgeihpfjfab
open Go.RowKit Crc Go.Proofs.YtfeddgeihpfjfabW.PrintWords

theorem OwnAt.fr {S : Nat → Prop} {W W1 : World} {base e size n : Nat} {v : Value} {xs : List Value} (h : OwnAt W base e size v n xs) (f : Fr S W W1) (hn : ∀ k, v.ownBlock = some k → ¬ S k) : OwnAt W1 base e size v n xs := by
  refine ⟨h.1, ?_⟩
  rcases h.2 with h | ⟨g', o, cap, cur, he, hb', hgg, rest⟩
  · exact .inl h
  · exact .inr ⟨g', o, cap, cur, he, hb', f.blk hgg (hn g' (by rw [he]; rfl)), rest⟩
theorem cell_on0 {w w2 : World} {a : Addr} {v : Value} (h : w.cell? a = some v) (hb : Below w.drew.heap.size w.drew w2) : w2.cell? a = some v :=
  pw_cell_below hb (show w.drew.cell? a = some v from h)
theorem below_on0 {w w2 : World} (hb : Below w.drew.heap.size w.drew w2) : Below w.heap.size w w2 :=
  ⟨hb.os, hb.tape, hb.output, hb.size, hb.block⟩
theorem fr_grown9 {w wr w2 W9 : World} {o : Obj} {g : Nat} {row : Option Nat} (h : Fr (· = g) w wr) (h2 : Below wr.heap.size wr w2) (hg : (w2.alloc o).grownBy W9 row) (hr : ∀ k, row = some k → w.heap.size ≤ k) : Fr (· = g) w W9 :=
  fr_grown ((h.trans (Fr.of_below h2)).alloc o) hg hr
theorem cell_grown9 {wr w2 W9 : World} {o : Obj} {n : Nat} {row : Option Nat} {p : Addr} (h2 : Below wr.heap.size wr w2) (hg : (w2.alloc o).grownBy W9 row) (hr : ∀ k, row = some k → n ≤ k) (hn : n ≤ wr.heap.size) (hp : p.block < n) : W9.cell? p = wr.cell? p := by
  have h3 := h2.size
  refine World.cell?_of_block ?_
  rw [hg.block p.block (by simp; omega) (fun e => by have := hr _ e.symm; omega), Below.heap_alloc _ _ _ (by omega)]
  exact h2.block p.block (by omega)
set_option maxRecDepth 100000 in
set_option maxHeartbeats 2000000 in
theorem mout_any (B g md : Nat) (v : Value) (s : Snd) (hs : SndOK md s) (hal : s.all.length ≤ 1000) (w : World) (h : MAt w B g md v s) :
    Calls Try.prog 18 #[.pointer (some ⟨g, 0, none⟩)] w fun e w' => ∃ v', e = .returned v' ∧ OwnAt w' w.heap.size 9 1 v' (outS md s).length (cellsB (outS md s)) ∧ MAt w' B g md v ⟨s.all, s.got, s.all.length⟩ ∧ Fr (· = g) w w' := by
  have HS := Lib.hid h
  obtain ⟨hb, ho⟩ := h
  obtain ⟨A, c, rfl, hc1, hc2⟩ := ho.slice
  have hgw := Lib.hid hb.lt
  have hgs := hs.gs
  have hsl := hs.sl
  have hmo := hs.mo
  have HBD := Lib.hid hs.bd
  have HNG := Lib.hid (ho.ne hb (by decide))
  clear hb ho
  have hR : Hid (outS md s = outL md s.sent ((s.all.drop s.sent).take (s.all.length - s.sent))) := by
    show outL _ _ _ = _
    rw [List.take_of_length_le (by rw [List.length_drop]; omega)]
  generalize outS md s = R at hR ⊢
  go_enter Try.func18, Try.ntmps18
  go_wp2
  go_loopg [3] (s.all.length - s.sent) (fun gm v3 W => ∃ (k c9 : Nat) (A9 : Option Addr), s.sent + k + gm = s.all.length ∧ v3 = .slice A9 k c9 ∧ Hid (OwnAt W w.heap.size 9 1 (.slice A9 k c9) k (cellsB (outL md s.sent ((s.all.drop s.sent).take k)))) ∧ Hid (Blk W g #[.int .i64 (md : Int), .slice A s.all.length c, .int .i64 (s.got : Int), .int .i64 ((s.sent + k : Nat) : Int)] 32) ∧ Hid (Fr (· = g) w W))
  case atStart => exact ⟨0, 0, none, by omega, rfl, OwnAt.of_row (own_nil _ _ _ _), HS.out.1, Fr.refl _ _⟩
  case round =>
    obtain ⟨k, c9, A9, hk, rfl, HO, HKW, HFW⟩ := hrel
    have hwsz : w.heap.size ≤ wr.heap.size := HFW.out.size
    have HOW : Hid (OwnAt wr B 9 1 (.slice A s.all.length c) s.all.length (cellsB s.all)) := HS.out.2.fr HFW.out (fun k hk e => by subst e; exact HNG.out hk)
    have m0 := HKW.out.cell 0 rfl
    have m1 := HKW.out.cell 1 rfl
    have m3 := HKW.out.cell 3 rfl
    have f3 := HKW.out.free 3
    by_cases hlt : s.sent + k < s.all.length
    · obtain ⟨hh, o, c2, hv, _, _, _⟩ := ownB_some HOW.out (by omega)
      injection hv with hv1 hv2 hv3
      subst hv1
      subst hv3
      have hhw : hh < w.heap.size := by
        obtain ⟨_, hty⟩ := HS.out.2.typed
        exact hty.lt
      have hgw' : g < w.heap.size := hgw.out
      have l0 := cellB HOW.out hlt
      have HST := Lib.hid (drop_one md s k hlt)
      have hbz : (s.all.getD (s.sent + k) ByteArray.empty).size ≤ 1500 := by
        rw [List.getD_eq_getElem?_getD, List.getElem?_eq_getElem hlt]
        exact HBD.out _ (List.getElem_mem hlt)
      generalize s.all.getD (s.sent + k) ByteArray.empty = b at l0 HST hbz
      have hrlt : (s.sent + k) % md < 16 := by
        have := Nat.mod_lt (s.sent + k) (show 0 < md by omega)
        omega
      have HA : Hid (∀ W : World, Calls Try.prog 19 #[.string ⟨#[68]⟩, .int .i64 (((s.sent + k) % md : Nat) : Int), .string b] W fun e w' => e = .returned (.string (frameS md (s.sent + k) b)) ∧ Below W.heap.size W w') := fun W => by
        have h := numbered_any ⟨#[68]⟩ b 68 rfl (((s.sent + k) % md : Nat) : Int) (by omega) W
        rw [byteOf_nat _ (by omega)] at h
        exact h
      generalize frameS md (s.sent + k) b = fr at HA HST
      obtain ⟨q, hq⟩ : ∃ q, q = s.sent + k := ⟨_, rfl⟩
      rw [← hq] at m3 l0 hlt HA hrlt
      have hq1000 : q ≤ 1000 := by omega
      have HQ := Lib.hid hq
      have hk1 : k ≤ 1000 := by omega
      have HGK := Lib.hid hk
      clear hq hk
      obtain ⟨r, hr⟩ : ∃ r, r = q % md := ⟨_, rfl⟩
      rw [← hr] at HA hrlt
      have hw2 : Int.tmod (q : Int) (md : Int) = (r : Int) := by
        rw [Int.tmod_eq_emod_of_nonneg (by omega), hr, Int.natCast_emod]
      have hw2' : (q : Int) % (md : Int) = (r : Int) := by rw [hr, Int.natCast_emod]
      clear hr
      have hw4 : ((md : Int) == 0) = false := by rw [beq_eq_false_iff_ne]; omega
      have hmd0 : (md = 0) = False := eq_false (by omega)
      have hw5 : (0 : Int) ≤ (q : Int) := by omega
      have hw6 : (q : Int) < (s.all.length : Int) := by omega
      have hk1000 : k + 1 ≤ maxLen := by unfold maxLen; omega
      have hk16 : (k + 1) * 16 ≤ 140737488355328 := by omega
      go_wp2
      go_quiet (fail)
      go_wp2
      have HO2 : Hid (OwnAt (wr.drewN nq) w.heap.size 9 1 (.slice A9 k c9) k (cellsB (outL md s.sent ((s.all.drop s.sent).take k)))) := HO.out
      have HKW2 : Hid (Blk (wr.drewN nq) g #[.int .i64 (md : Int), .slice (some ⟨hh, o, none⟩) s.all.length c, .int .i64 (s.got : Int), .int .i64 (q : Int)] 32) := by
        have h := HKW.out; rw [← HQ.out] at h; exact h
      have HFW2 : Hid (Fr (· = g) w (wr.drewN nq)) := HFW.out.drewN _
      have hwsz2 : w.heap.size ≤ (wr.drewN nq).heap.size := hwsz
      have l0' : (wr.drewN nq).cell? ⟨hh, o + q, none⟩ = some (.string b) := l0
      clear m0 m1 m3 f3 l0 HO HKW HFW HOW hwsz
      generalize wr.drewN nq = W2 at HO2 HKW2 HFW2 hwsz2 l0' ⊢
      have hm0 := HKW2.out.cell 0 rfl
      have hm1 := HKW2.out.cell 1 rfl
      have hm3 := HKW2.out.cell 3 rfl
      go_region_held3 (fun V => V.cell? ⟨g, 0, none⟩ = some (.int .i64 (md : Int)) ∧ V.cell? ⟨g, 1, none⟩ = some (.slice (some ⟨hh, o, none⟩) s.all.length c) ∧ V.cell? ⟨g, 3, none⟩ = some (.int .i64 (q : Int)) ∧ V.cell? ⟨hh, o + q, none⟩ = some (.string b)) (go_keep) ((first
        | (go_at_call 19; ((with_reducible refine (HA.out _).mono ?_)); rintro e w2 ⟨rfl, hb2⟩; have HB2 := Lib.hid (below_on0 hb2); have k0 := cell_on0 hm0 hb2; have k1 := cell_on0 hm1 hb2; have k2 := cell_on0 hm3 hb2; have k3 := cell_on0 l0' hb2; clear hb2)
        | (refine step_append_at rfl (.tmp 21) (.tmp 42) 23 23 9 _ w.heap.size 1 16 rfl Try.underlying23 infoT rfl (.slice A9 k c9) (.slice (some ⟨w2.heap.size, 0, none⟩) 1 1) k 1 _ (cellsB [fr]) (by simp [Act.eval, Act.put]) (by simp [Act.eval, Act.put]) ((HO2.out.below HB2.out).alloc _) (srcB_new w2 Try.underlying23 fr) hk1000 hk16 (Nat.le_trans (Nat.le_trans hwsz2 HB2.out.size) (by simp)) ?_; intro v9 w9 hown hgr; have HO5 := Lib.hid hown; have HF9 := Lib.hid (fr_grown9 HFW2.out HB2.out hgr (HO2.out.base_le)); have k4 := (cell_grown9 (p := ⟨g, 0, none⟩) HB2.out hgr (HO2.out.base_le) hwsz2 hgw').trans hm0; have k5 := (cell_grown9 (p := ⟨g, 1, none⟩) HB2.out hgr (HO2.out.base_le) hwsz2 hgw').trans hm1; have k6 := (cell_grown9 (p := ⟨g, 3, none⟩) HB2.out hgr (HO2.out.base_le) hwsz2 hgw').trans hm3; have k7 := (cell_grown9 (p := ⟨hh, o + q, none⟩) HB2.out hgr (HO2.out.base_le) hwsz2 hhw).trans l0'; have HK9 := Lib.hid (blk_grown ((blk_below HB2.out HKW2.out).alloc _) hgr (HO2.out.ne HKW2.out (by decide))); clear hown hgr)))
      obtain ⟨A8, c8, hv8, _, _⟩ := HO5.out.slice
      subst hv8
      have f9 := HK9.out.free 3
      clear hw2 hw2' k4 k5 k7
      go_wp2
      have h5 : OwnAt w9 w.heap.size 9 1 (.slice A8 (k + 1) c8) (k + 1) (cellsB (outL md s.sent ((s.all.drop s.sent).take (k + 1)))) := by
        have h5 := HO5.out
        rw [← cellsB_app, ← HST.out] at h5
        exact h5
      have hq := HQ.out
      have hgk := HGK.out
      go_roundg (s.all.length - q - 1)
      case rel => exact ⟨k + 1, c8, A8, by omega, rfl, h5.setCell (h5.ne (T := 32) HK9.out (by decide)) _, by rw [← Nat.add_assoc, ← hq]; have h := HK9.out.set 3 (.int .i64 ((q : Int) + 1)); exact h, HF9.out.set1 3 _⟩
      case measure => omega
    · have hke : k = s.all.length - s.sent := by omega
      have HR2 : Hid (R = outL md s.sent ((s.all.drop s.sent).take k)) := by rw [hke]; exact hR
      have hRl : R.length = k := by
        rw [HR2.out, outL_len, List.length_take, List.length_drop]; omega
      obtain ⟨q, hq⟩ : ∃ q, q = s.sent + k := ⟨_, rfl⟩
      have HKW2 : Hid (Blk wr g #[.int .i64 (md : Int), .slice A s.all.length c, .int .i64 (s.got : Int), .int .i64 (s.all.length : Int)] 32) := by
        have h := HKW.out
        rw [show s.sent + k = s.all.length by omega] at h; exact h
      have m3' := HKW2.out.cell 3 rfl
      clear m3 hq
      go_wp2
      go_quiet (fail)
      go_wp2
      go_ret
      refine ⟨.slice A9 k c9, rfl, ?_, ⟨HKW2.out, HOW.out⟩, HFW.out.drewN _⟩
      rw [hRl]
      have h := HO.out
      rw [← HR2.out] at h
      exact h
end Go.Proofs.Ytfeddgeihpfjfab
