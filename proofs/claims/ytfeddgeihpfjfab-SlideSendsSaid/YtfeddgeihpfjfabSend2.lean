/- The sending ends: Out. -/
import Derived.Test.YtfeddgeihpfjfabSend1
import Derived.Deep.RegionHeld3
import Derived.Deep.RegionLaw
import Derived.Deep.AppendLies
set_option linter.unusedVariables false
set_option linter.unusedSimpArgs false
namespace Go.Proofs.Ytfeddgeihpfjfab
open Go.RowKit Crc Go.Proofs.YtfeddgeihpfjfabW.PrintWords

theorem drop_one (md : Nat) (s : Snd) (k : Nat) (h : s.sent + k < s.all.length) : outL md s.sent ((s.all.drop s.sent).take (k + 1)) = outL md s.sent ((s.all.drop s.sent).take k) ++ [frameS md (s.sent + k) (s.all.getD (s.sent + k) ByteArray.empty)] := by
  have hl : k < (s.all.drop s.sent).length := by rw [List.length_drop]; omega
  rw [List.take_succ_eq_append_getElem hl, outL_snoc, List.length_take, Nat.min_eq_left (by omega)]
  rw [List.getElem_drop, List.getD_eq_getElem?_getD, List.getElem?_eq_getElem h]; rfl
theorem below_drew1' {B : Nat} {w w1 : World} (h : Below B w w1) : Below B w w1.drew := ⟨h.os, h.tape, h.output, h.size, h.block⟩
theorem below_grown9 {w wr w2 W9 : World} {o : Obj} {row : Option Nat} (h : Below w.heap.size w wr) (h2 : Below wr.heap.size wr w2) (hg : (w2.alloc o).grownBy W9 row) (hr : ∀ k, row = some k → w.heap.size ≤ k) : Below w.heap.size w W9 := by
  have h3 := (below_then h h.size h2)
  exact (h3.alloc h3.size o).grown hg (by have := h3.size; simp; omega) hr
theorem fr_put' {w W : World} {g : Nat} (hb : Below w.heap.size w W) (i : Nat) (v : Value) : Fr (· = g) w (W.setCell ⟨g, i, none⟩ v) := (Fr.of_below hb).set1 i v
theorem cell_on {w w2 : World} {o : Obj} {a : Addr} {v : Value} (h : w.cell? a = some v) (hb : Below ((w.alloc o).drew).heap.size (w.alloc o).drew w2) : w2.cell? a = some v :=
  pw_cell_below hb (pw_cell_below (w := w) (w1 := (w.alloc o).drew) (below_drew1' ((Below.refl _ _).alloc (Nat.le_refl _) _)) h)
theorem below_on {w w2 : World} {o : Obj} (hb : Below ((w.alloc o).drew).heap.size (w.alloc o).drew w2) : Below w.heap.size w w2 :=
  below_then (below_drew1' ((Below.refl _ _).alloc (Nat.le_refl _) _)) (by show w.heap.size ≤ (w.alloc o).heap.size; simp) hb
theorem frame_size {md i : Nat} {b : ByteArray} : (frameS md i b).size = b.size + 6 := by
  unfold frameS
  rw [bs_size, sealed_length]
  have : b.data.toList.length = b.size := rfl
  simp only [List.length_cons, this]
set_option maxRecDepth 100000 in
set_option maxHeartbeats 2000000 in
theorem out_any (B g md : Nat) (v : Value) (s : Snd) (hs : SndOK md s) (hal : s.all.length ≤ 1000) (w : World) (h : SAt w B g md v s) :
    Calls Try.prog 17 #[.pointer (some ⟨g, 0, none⟩)] w fun e w' => ∃ v', e = .returned v' ∧ OwnAt w' w.heap.size 9 1 v' (outS md s).length (cellsB (outS md s)) ∧ SAt w' B g md v ⟨s.all, s.got, s.all.length⟩ ∧ Fr (· = g) w w' := by
  have HS := Lib.hid h
  obtain ⟨hb, ho⟩ := h
  obtain ⟨A, c, rfl, hc1, hc2⟩ := ho.slice
  have hgw := Lib.hid hb.lt
  have m3 := hb.cell 3 rfl
  have hgs := hs.gs
  have hsl := hs.sl
  have hmo := hs.mo
  have HBD := Lib.hid hs.bd
  have hlen : Hid ((s.all.drop s.got).length = s.all.length - s.got) := List.length_drop
  clear hb ho
  generalize hds : s.all.drop s.got = ds at *
  have HDS := Lib.hid hds
  clear hds
  have hR : Hid (outS md s = outL md s.sent ((s.all.drop s.sent).take (s.all.length - s.sent))) := by
    show outL _ _ _ = _
    rw [List.take_of_length_le (by rw [List.length_drop]; omega)]
  generalize outS md s = R at hR ⊢
  go_enter Try.func17, Try.ntmps17
  go_wp2
  clear m3
  go_loopw [3, 4] (fun v3 i W => ∃ (k q c9 : Nat) (A9 : Option Addr), s.sent + k ≤ s.all.length ∧ Hid (q = s.sent - s.got + k) ∧ i = .int .i64 (q : Int) ∧ v3 = .slice A9 k c9 ∧ Hid (OwnAt W w.heap.size 9 1 (.slice A9 k c9) k (cellsB (outL md s.sent ((s.all.drop s.sent).take k)))) ∧ Hid (Below w.heap.size w W)) (fun _ i _ => s.all.length - s.got - (intOf i).toNat)
  case atStart => exact ⟨0, s.sent - s.got, 0, none, by omega, by show _ = _; omega, rfl, rfl, OwnAt.of_row (own_nil _ _ _ _), Below.refl _ _⟩
  case round =>
    obtain ⟨k, q, c9, A9, hk, HQ, rfl, rfl, HO, HBL⟩ := hrel
    have hwsz : w.heap.size ≤ wr.heap.size := HBL.out.size
    have HKW : Hid (Blk wr g #[.int .i64 (md : Int), .int .i64 ((s.got % md : Nat) : Int), .slice A ds.length c, .int .i64 ((s.sent - s.got : Nat) : Int)] 110) := blkB HBL.out hgw.out HS.out.1
    have HOW : Hid (OwnAt wr B 9 1 (.slice A ds.length c) ds.length (cellsB ds)) := by have h := HS.out.2.below HBL.out; rw [HDS.out] at h; exact h
    by_cases hlt : s.sent + k < s.all.length
    · obtain ⟨hh, o, c2, hv, _, _, _⟩ := ownB_some HOW.out (by have := hlen.out; omega)
      injection hv with hv1 hv2 hv3
      subst hv1
      subst hv3
      have hhw : hh < w.heap.size := by
        have h := HS.out.2
        rw [HDS.out] at h
        obtain ⟨_, hty⟩ := h.typed
        exact hty.lt
      have hgw' : g < w.heap.size := hgw.out
      have hidx : q < ds.length := by have := hlen.out; have := HQ.out; omega
      have l0 := cellB HOW.out hidx
      have hel : ds.getD q ByteArray.empty = s.all.getD (s.sent + k) ByteArray.empty := by
        rw [← HDS.out, List.getD_eq_getElem?_getD, List.getElem?_drop, show s.got + q = s.sent + k by have := HQ.out; omega, ← List.getD_eq_getElem?_getD]
      rw [hel] at l0
      have HST := Lib.hid (drop_one md s k hlt)
      have hbz : (s.all.getD (s.sent + k) ByteArray.empty).size ≤ 1500 := by
        rw [List.getD_eq_getElem?_getD, List.getElem?_eq_getElem hlt]
        exact HBD.out _ (List.getElem_mem hlt)
      generalize s.all.getD (s.sent + k) ByteArray.empty = b at l0 HST hbz
      have hmod : (s.got % md + q) % md = (s.sent + k) % md := by
        have h1 := HQ.out
        rcases hmo with h | h <;> subst h <;> omega
      have hrlt : (s.sent + k) % md < 16 := by
        have := Nat.mod_lt (s.sent + k) (show 0 < md by omega)
        omega
      have hqlt : s.got % md < 16 := by
        have := Nat.mod_lt s.got (show 0 < md by omega)
        omega
      have hq1000 : q ≤ 1000 := by have := HQ.out; omega
      have HA : Hid (∀ W : World, Calls Try.prog 61 #[.string (bs [68, UInt8.ofNat ((s.sent + k) % md)] ++ b)] W fun e w' => e = .returned (.string (frameS md (s.sent + k) b)) ∧ Below W.heap.size W w') := fun W => by
        have e : bs [68, UInt8.ofNat ((s.sent + k) % md)] ++ b = bs (68 :: UInt8.ofNat ((s.sent + k) % md) :: b.data.toList) := by
          conv => lhs; rw [← bs_list b]
          rw [bs_append]; rfl
        rw [e]
        exact seal_any (bs (68 :: UInt8.ofNat ((s.sent + k) % md) :: b.data.toList)) (by rw [bs_size]; have : b.data.toList.length = b.size := rfl; simp only [List.length_cons, this]; omega) W
      have hfz : (frameS md (s.sent + k) b).size ≤ 2000 := by rw [frame_size]; omega
      generalize frameS md (s.sent + k) b = fr at HA HST hfz
      have hm0 := HKW.out.cell 0 rfl
      have hm1 := HKW.out.cell 1 rfl
      have hm2 := HKW.out.cell 2 rfl
      generalize s.got % md = bse at hm1 hmod hqlt
      generalize hrr : (s.sent + k) % md = r at hmod hrlt HA
      have HRR := Lib.hid hrr
      clear hrr
      have hcv := fun (W : World) (g : Nat) (h0 : W.cell? ⟨g, 0, none⟩ = some (.int .u8 68)) (h1 : W.cell? ⟨g, 1, none⟩ = some (.int .u8 (r : Int))) => conv_two (P := Try.prog) W 113 5 9 Try.underlying113 Try.underlying5 Try.underlying9 g _ _ h0 h1
      rw [show UInt8.ofNat (Int.toNat 68) = 68 from rfl, show UInt8.ofNat (Int.toNat (r : Int)) = UInt8.ofNat r from rfl] at hcv
      have ht1z : (bs [68, UInt8.ofNat r]).size = 2 := rfl
      generalize bs [68, UInt8.ofNat r] = t1 at HA hcv ht1z
      go_wp2
      have hw2 : Int.tmod ((bse : Int) + (q : Int)) (md : Int) = (r : Int) := by
        rw [Int.tmod_eq_emod_of_nonneg (by omega), ← hmod, Int.natCast_emod, Int.natCast_add]
      have hw3 : IntKind.u8.wrap (r : Int) = (r : Int) := by simp [IntKind.wrap, IntKind.bits, IntKind.signed]; omega
      have hw4 : ((md : Int) == 0) = false := by rw [beq_eq_false_iff_ne]; omega
      have hw5 : (0 : Int) ≤ (q : Int) := by omega
      have hw6 : (q : Int) < (ds.length : Int) := by omega
      have hk1000 : k + 1 ≤ maxLen := by unfold maxLen; omega
      have hk16 : (k + 1) * 16 ≤ 140737488355328 := by omega
      have hw7 : ¬ ((9223372036854775807 : Int) < (t1.size : Int) + (b.size : Int)) := by omega
      have hw8 : ¬ ((9223372036854775807 : Int) < ((t1.size + b.size : Nat) : Int)) := by omega
      have hw1 : IntKind.i64.wrap ((bse : Int) + (q : Int)) = (bse : Int) + (q : Int) := by rw [IntKind.wrap_i64]; omega
      have hmd0 : (md = 0) = False := eq_false (by omega)
      have hw9 : ((9223372036854775807 : Nat) < 2 + b.size) = False := eq_false (by omega)
      have hgl : g < wr.heap.size := by omega
      have hhl : hh < wr.heap.size := by omega
      have hgn1 : g ≠ wr.heap.size := by omega
      have hgn2 : wr.heap.size ≠ g := by omega
      have hhn1 : hh ≠ wr.heap.size := by omega
      have hhn2 : wr.heap.size ≠ hh := by omega
      go_region_law (first
        | (refine step_append_at rfl (.tmp 18) (.tmp 42) 23 23 9 _ w.heap.size 1 16 rfl Try.underlying23 infoT rfl (.slice A9 k c9) (.slice (some ⟨w2.heap.size, 0, none⟩) 1 1) k 1 _ (cellsB [fr]) (by simp [Act.eval, Act.put]) (by simp [Act.eval, Act.put]) ((HO.out.below HB2.out).alloc _) (srcB_new w2 Try.underlying23 fr) hk1000 hk16 (Nat.le_trans (Nat.le_trans hwsz HB2.out.size) (by simp)) ?_; intro v9 w9 hown hgr; have HO5 := Lib.hid hown; have HB9 := Lib.hid (below_grown9 HBL.out HB2.out hgr (HO.out.base_le)); have k4 := (HB9.out.cell (p := ⟨g, 0, none⟩) hgw').trans ((HBL.out.cell (p := ⟨g, 0, none⟩) hgw').symm.trans hm0); have k5 := (HB9.out.cell (p := ⟨g, 1, none⟩) hgw').trans ((HBL.out.cell (p := ⟨g, 1, none⟩) hgw').symm.trans hm1); have k6 := (HB9.out.cell (p := ⟨g, 2, none⟩) hgw').trans ((HBL.out.cell (p := ⟨g, 2, none⟩) hgw').symm.trans hm2); have k7 := (HB9.out.cell (p := ⟨hh, o + q, none⟩) hhw).trans ((HBL.out.cell (p := ⟨hh, o + q, none⟩) hhw).symm.trans l0); clear hown hgr)
        | (go_simp; go_at_call 61; ((with_reducible refine (HA.out _).mono ?_)); rintro e w2 ⟨rfl, hb2⟩; have HB2 := Lib.hid (below_on hb2); have k0 := cell_on hm0 hb2; have k1 := cell_on hm1 hb2; have k2 := cell_on hm2 hb2; have k3 := cell_on l0 hb2; clear hb2))
      all_goals
        obtain ⟨A8, c8, hv8, _, _⟩ := HO5.out.slice
        subst hv8
        have h5 := HO5.out
        rw [← cellsB_app, ← HST.out] at h5
        clear hw1 hw2 hw3 k4 k5 k6 k7
        go_wp2
        go_roundw
        case rel => exact ⟨k + 1, q + 1, c8, A8, by omega, by have := HQ.out; show _ = _; omega, by go_num, rfl, h5, HB9⟩
        case measure => have := hlen.out; simp [intOf]; omega
    · have hke : k = s.all.length - s.sent := by omega
      have HR2 : Hid (R = outL md s.sent ((s.all.drop s.sent).take k)) := by rw [hke]; exact hR
      have hRl : R.length = k := by
        rw [HR2.out, outL_len, List.length_take, List.length_drop]; omega
      have m2 := HKW.out.cell 2 rfl
      have m3 := HKW.out.cell 3 rfl
      have f3 := HKW.out.free 3
      have hq2 : ds.length ≤ q := by have := hlen.out; have := HQ.out; omega
      have hge : g < wr.heap.size := by have := hgw.out; omega
      go_wp2
      go_ret
      refine ⟨.slice A9 k c9, rfl, ?_, ⟨?_, ?_⟩, fr_put' HBL.out 3 _⟩
      · have h := HO.out
        rw [← HR2.out, ← hRl] at h
        rw [← hRl]
        exact h.setCell (h.ne (T := 110) HKW.out (by decide)) _
      · have h := HKW.out.set 3 (.int .i64 (ds.length : Int))
        rw [hlen.out] at h ⊢
        exact h
      · rw [HDS.out]
        exact HOW.out.setCell (HOW.out.ne (T := 110) HKW.out (by decide)) _
end Go.Proofs.Ytfeddgeihpfjfab
