/- backoff.Contend, walked. -/
import Derived.Test.YtfeddgeihpfjfaaRows
import Derived.Test.YtfeddgeihpfjfaaCont
import Derived.Test.YtfeddgeihpfjfaaPk
import Derived.Laws.MakeOwn
import Derived.Outline
import Derived.Deep.RegionHeld3
import Derived.RegionTactic
import Derived.WalkLawsBesides
set_option linter.unusedVariables false
set_option linter.unusedSimpArgs false
namespace Go.Proofs.Ytfeddgeihpfjfaa
open Go.RowKit Go.Proofs.YtfeddgeihpfjfaaW.PrintWords

theorem and_low (d : Int) (i : Nat) (hi : i ≤ 10) : Go.bits .and .i64 d (2 ^ i - 1) = d % 2 ^ i := by
  have hpos : 0 < 2 ^ i := Nat.two_pow_pos i
  have hle : 2 ^ i ≤ 2 ^ 10 := Nat.pow_le_pow_right (by omega) hi
  have hc : ((2 : Int) ^ i - 1) = ((2 ^ i - 1 : Nat) : Int) := by
    rw [Int.natCast_sub hpos]; simp
  have hdv : ((2 : Int) ^ i) ∣ (2 ^ 64 : Nat) := ⟨2 ^ (64 - i), by rw [← Int.pow_add, show i + (64 - i) = 64 by omega]; rfl⟩
  have e1 : (BitVec.ofInt IntKind.i64.bits d).toNat = (d % (2 ^ 64 : Nat)).toNat := BitVec.toNat_ofInt ..
  have h0 : 0 ≤ d % (2 ^ 64 : Nat) := Int.emod_nonneg _ (by omega)
  rw [hc]
  simp only [Go.bits, BitVec.ofInt_natCast, BitVec.toNat_and, BitVec.toNat_ofNat]
  rw [show 2 ^ IntKind.i64.bits = 2 ^ 64 from rfl, Nat.mod_eq_of_lt (by omega : 2 ^ i - 1 < 2 ^ 64), Nat.and_two_pow_sub_one_eq_mod, e1]
  have e2 : (((d % (2 ^ 64 : Nat)).toNat % 2 ^ i : Nat) : Int) = d % 2 ^ i := by
    rw [Int.natCast_emod, Int.toNat_of_nonneg h0]
    rw [Int.natCast_pow]
    exact Int.emod_emod_of_dvd d hdv
  rw [e2, IntKind.wrap_i64]
  have := Int.emod_nonneg d (b := (2 : Int) ^ i) (by have : (0 : Int) < 2 ^ i := by exact_mod_cast hpos
                                                     omega)
  have := Int.emod_lt_of_pos d (b := (2 : Int) ^ i) (by exact_mod_cast hpos)
  have : (2 : Int) ^ i ≤ 2 ^ 10 := by exact_mod_cast hle
  omega
theorem wait_bits (d : Int) (i : Nat) (hi : i ≤ 10) : Go.bits .and .i64 d (wrap64 (wrap64 (2 ^ i) - 1)) = d % 2 ^ i := by
  have hpos : (0 : Int) < 2 ^ i := by exact_mod_cast Nat.two_pow_pos i
  have hle : (2 : Int) ^ i ≤ 2 ^ 10 := by exact_mod_cast Nat.pow_le_pow_right (by omega) hi
  have h1 : wrap64 ((2 : Int) ^ i) = 2 ^ i := w64 (by omega) (by omega)
  rw [h1, w64 (by omega) (by omega)]
  exact and_low d i hi
theorem wait_calls (t d : Int) (h0 : 1 ≤ t) (h1 : t ≤ 16) (w : World) : Calls Try.prog 39 #[.int .i64 t, .int .i64 d] w fun e w' => e = .returned (.tuple #[.int .i64 (wt t d), .int .i64 0]) ∧ Drawn0 w w' := by
  by_cases c : t ≤ 10
  · have hw : wt t d = Go.bits .and .i64 d (wrap64 (wrap64 (2 ^ t.toNat) - 1)) := by
      rw [wait_bits d _ (by omega)]; unfold wt; rw [show min t 10 = t by omega]
    rw [hw]
    clear hw
    go_enter Try.func39, Try.ntmps39
    go_wp2
    go_ret2
    exact ⟨rfl, by repeat (first | exact Drawn0.refl _ | apply Drawn0.step)⟩
  · have hw : wt t d = Go.bits .and .i64 d (wrap64 (wrap64 1024 - 1)) := by
      rw [show wrap64 (wrap64 1024 - 1) = 1023 by decide +kernel]
      rw [show (1023 : Int) = 2 ^ 10 - 1 by rfl, and_low d 10 (by omega)]; unfold wt; rw [show min t 10 = 10 by omega]; rfl
    rw [hw]
    clear hw
    go_enter Try.func39, Try.ntmps39
    go_wp2
    go_ret2
    exact ⟨rfl, by repeat (first | exact Drawn0.refl _ | apply Drawn0.step)⟩

/-- The stations in their block. -/
def Sts (W : World) (g n : Nat) (s : Cst) : Prop :=
  ∃ cs : Array Value, Blk W g cs 155 ∧ cs.size = n * 3 ∧ ∀ j, j < n → cs[j * 3]? = some (.int .i64 (s.nx.getD j 0)) ∧ cs[j * 3 + 1]? = some (.int .i64 (s.tr.getD j 0)) ∧ cs[j * 3 + 2]? = some (.int .i64 (s.sn.getD j 0))

theorem infoC : (Try.prog.info? 155).map (fun i => (i.zero.map (·.cells), i.size, i.bytes)) = some (some #[.int .i64 0, .int .i64 0, .int .i64 0], 3, 24) := by kernel_rfl

theorem Sts.alloc {W : World} {g n : Nat} {s : Cst} (h : Sts W g n s) (o : Obj) : Sts (W.alloc o) g n s := by
  obtain ⟨cs, hb, hsz, hc⟩ := h
  exact ⟨cs, hb.alloc o, hsz, hc⟩
theorem infoI8 : (Try.prog.info? 3).map (fun i => (i.zero, i.size, i.bytes)) = some (some (.int .i64 0), 1, 8) := by kernel_rfl
theorem below_drew1 {B : Nat} {w w1 : World} (h : Below B w w1) : Below B w w1.drew := ⟨h.os, h.tape, h.output, h.size, h.block⟩
theorem own_drewN {W : World} {base e size n : Nat} {v : Value} {xs : List Value} (h : W.ownsRow base e size v n xs) (m : Nat) : (W.drewN m).ownsRow base e size v n xs := h
theorem Sts.after {W W1 : World} {g n base m size : Nat} {s : Cst} {v : Value} {xs : List Value} (h : Sts W g n s) (ho : W.ownsRow base 3 size v m xs) (hg : W.grownBy W1 v.ownBlock) : Sts W1 g n s := by
  obtain ⟨cs, hb, hsz, hc⟩ := h
  refine ⟨cs, ?_, hsz, hc⟩
  have hlt := hb.lt
  unfold Blk at *
  rw [hg.block g hlt ?_]
  · exact hb
  · intro e
    obtain ⟨cells, hc⟩ := own_typed ho g e.symm
    rw [hb] at hc
    injection hc with hc
    injection hc with _ hc
    exact absurd hc (by decide)
theorem Sts.apart {W : World} {g n base m size h : Nat} {s : Cst} {v : Value} {xs : List Value} (hs : Sts W g n s) (ho : W.ownsRow base 3 size v m xs) (hv : v.ownBlock = some h) : h ≠ g := by
  obtain ⟨cs, hb, hsz, hc⟩ := hs
  rintro rfl
  obtain ⟨cells, hc⟩ := own_typed ho h hv
  unfold Blk at hb
  rw [hb] at hc
  injection hc with hc
  injection hc with _ hc
  exact absurd hc (by decide)
theorem Sts.drewN {W : World} {g n : Nat} {s : Cst} (h : Sts W g n s) (m : Nat) : Sts (W.drewN m) g n s := h
theorem Sts.setN {W : World} {g n : Nat} {s : Cst} (h : Sts W g n s) {i : Nat} (hi : i < n) (hl : s.nx.length = n) (y : Int) : Sts (W.setCell ⟨g, i * 3, none⟩ (.int .i64 y)) g n ⟨s.nx.set i y, s.tr, s.sn, s.lf, s.us⟩ := by
  obtain ⟨cs, hb, hsz, hc⟩ := h
  refine ⟨_, hb.set _ _, by simpa using hsz, fun j hj => ?_⟩
  obtain ⟨h0, h1, h2⟩ := hc j hj
  refine ⟨?_, ?_, ?_⟩
  · show _ = some (Value.int .i64 ((s.nx.set i y).getD j 0))
    rw [getD_set _ _ _ _ (by omega), Array.getElem?_setIfInBounds]
    by_cases e : j = i
    · subst e; rw [if_pos rfl, if_pos (by omega), if_pos rfl]
    · rw [if_neg (by omega), if_neg e, h0]
  · rw [Array.getElem?_setIfInBounds, if_neg (by omega), h1]
  · rw [Array.getElem?_setIfInBounds, if_neg (by omega), h2]
theorem Sts.setT {W : World} {g n : Nat} {s : Cst} (h : Sts W g n s) {i : Nat} (hi : i < n) (hl : s.tr.length = n) (y : Int) : Sts (W.setCell ⟨g, i * 3 + 1, none⟩ (.int .i64 y)) g n ⟨s.nx, s.tr.set i y, s.sn, s.lf, s.us⟩ := by
  obtain ⟨cs, hb, hsz, hc⟩ := h
  refine ⟨_, hb.set _ _, by simpa using hsz, fun j hj => ?_⟩
  obtain ⟨h0, h1, h2⟩ := hc j hj
  refine ⟨?_, ?_, ?_⟩
  · rw [Array.getElem?_setIfInBounds, if_neg (by omega), h0]
  · show _ = some (Value.int .i64 ((s.tr.set i y).getD j 0))
    rw [getD_set _ _ _ _ (by omega), Array.getElem?_setIfInBounds]
    by_cases e : j = i
    · subst e; rw [if_pos rfl, if_pos (by omega), if_pos rfl]
    · rw [if_neg (by omega), if_neg e, h1]
  · rw [Array.getElem?_setIfInBounds, if_neg (by omega), h2]
theorem Sts.setS {W : World} {g n : Nat} {s : Cst} (h : Sts W g n s) {i : Nat} (hi : i < n) (hl : s.sn.length = n) (y : Int) : Sts (W.setCell ⟨g, i * 3 + 2, none⟩ (.int .i64 y)) g n ⟨s.nx, s.tr, s.sn.set i y, s.lf, s.us⟩ := by
  obtain ⟨cs, hb, hsz, hc⟩ := h
  refine ⟨_, hb.set _ _, by simpa using hsz, fun j hj => ?_⟩
  obtain ⟨h0, h1, h2⟩ := hc j hj
  refine ⟨?_, ?_, ?_⟩
  · rw [Array.getElem?_setIfInBounds, if_neg (by omega), h0]
  · rw [Array.getElem?_setIfInBounds, if_neg (by omega), h1]
  · show _ = some (Value.int .i64 ((s.sn.set i y).getD j 0))
    rw [getD_set _ _ _ _ (by omega), Array.getElem?_setIfInBounds]
    by_cases e : j = i
    · subst e; rw [if_pos rfl, if_pos (by omega), if_pos rfl]
    · rw [if_neg (by omega), if_neg e, h2]
theorem Sts.cells {W : World} {g n : Nat} {s : Cst} (h : Sts W g n s) {i : Nat} (hi : i < n) : W.cell? ⟨g, i * 3, none⟩ = some (.int .i64 (s.nx.getD i 0)) ∧ W.cell? ⟨g, i * 3 + 1, none⟩ = some (.int .i64 (s.tr.getD i 0)) ∧ W.cell? ⟨g, i * 3 + 2, none⟩ = some (.int .i64 (s.sn.getD i 0)) ∧ ∀ o, W.frozen? ⟨g, o, none⟩ = false := by
  obtain ⟨cs, hb, hsz, hc⟩ := h
  obtain ⟨h0, h1, h2⟩ := hc i hi
  exact ⟨hb.cell _ h0, hb.cell _ h1, hb.cell _ h2, fun o => hb.free o⟩
theorem made_sts (w : World) (n : Nat) : Sts (w.alloc (.cells (madeCells #[.int .i64 0, .int .i64 0, .int .i64 0] (n * 3)) 155)) w.heap.size n (start n) := by
  refine ⟨_, Blk.new _ _ _, by simp [madeCells], fun j hj => ?_⟩
  have e : (List.replicate n (0 : Int)).getD j 0 = 0 := by rw [List.getD_eq_getElem?_getD, List.getElem?_replicate]; simp [hj]
  have h0 : ∀ i, i < n * 3 → (madeCells #[Value.int .i64 0, .int .i64 0, .int .i64 0] (n * 3))[i]? = some (.int .i64 0) := by
    intro i hi
    have hlt : i < (madeCells #[Value.int .i64 0, .int .i64 0, .int .i64 0] (n * 3)).size := by simpa [madeCells] using hi
    rw [Array.getElem?_eq_getElem hlt]
    simp only [madeCells, Array.getElem_map, Array.getElem_range]
    have : i % 3 = 0 ∨ i % 3 = 1 ∨ i % 3 = 2 := by omega
    rcases this with h | h | h <;> simp [h]
  have e1 : (start n).nx.getD j 0 = 0 := e
  have e2 : (start n).tr.getD j 0 = 0 := e
  have e3 : (start n).sn.getD j 0 = 0 := e
  rw [e1, e2, e3]
  exact ⟨h0 _ (by omega), h0 _ (by omega), h0 _ (by omega)⟩
theorem Sts.other {W : World} {g n b : Nat} {s : Cst} (h : Sts W g n s) (hb : b ≠ g) (i : Nat) (v : Value) : Sts (W.setCell ⟨b, i, none⟩ v) g n s := by
  obtain ⟨cs, h0, h1, h2⟩ := h
  exact ⟨cs, h0.other (a := ⟨b, i, none⟩) (Ne.symm hb) v, h1, h2⟩
theorem sn_step (l : List Int) (n k : Nat) (hl : l.length = n) (hk : k < n) : (l.take k ++ List.replicate (n - k) 0).set k (l.getD k 0) = l.take (k + 1) ++ List.replicate (n - (k + 1)) 0 := by
  have h1 : (l.take k).length = k := by rw [List.length_take]; omega
  rw [List.set_append_right _ _ (by omega), h1, Nat.sub_self, show n - k = (n - (k + 1)) + 1 by omega, List.replicate_succ, List.set_cons_zero]
  rw [List.take_succ_eq_append_getElem (by omega), List.append_assoc, List.getD_eq_getElem?_getD, List.getElem?_eq_getElem (by omega)]
  rfl
theorem start_mu (n : Nat) (hn : n ≤ 16) : mu n (start n) ≤ 300 := by
  have hs : sumI (List.replicate n (0 : Int)) = 0 := by unfold sumI; simp
  show (n : Int) + (17 * n - sumI (List.replicate n 0)) ≤ 300
  omega
set_option maxRecDepth 100000 in
set_option maxHeartbeats 8000000 in
theorem contend_calls (n : Nat) (hn : n ≤ 16) (A : Option Addr) (c : Nat) (ds : List Int) (w : World) (hr : Kd.C (Kd.int .i64) w A ds.length ds) (hc : ds.length ≤ c) (hd : ds.length ≤ 256) :
    Calls Try.prog 41 #[.int .i64 (n : Int), .slice A ds.length c] w fun e w' => ∃ v : Value, e = .returned (.tuple #[v, .int .i64 0]) ∧ Kd.R (Kd.int .i64) 3 w' w.heap.size (fun _ => True) v (contended ds n) ∧ Below w.heap.size w w' := by
  have mk : ∀ W : World, (Instr.makeSlice 153 (.int .i64 (n : Int)) (.int .i64 (n : Int))).run Try.prog W = .ok (.slice (some ⟨W.heap.size, 0, none⟩) n n) (W.alloc (.cells (madeCells #[.int .i64 0, .int .i64 0, .int .i64 0] (n * 3)) 155)) := by
    intro W
    obtain ⟨i0, hi, hz⟩ := Option.map_eq_some_iff.1 infoC
    simp only [Prod.mk.injEq] at hz
    obtain ⟨hz0, hz1, hz2⟩ := hz
    obtain ⟨z, hz, hzc⟩ := Option.map_eq_some_iff.1 hz0
    have := run_make (P := Try.prog) (w := W) 153 155 i0 z (by kernel_rfl) hi hz .i64 .i64 (n : Int) (n : Int) (by omega) (by omega) (by rw [hz2]; omega) (by omega)
    rw [hz1, hzc] at this
    simpa using this
  have mk2 := print_make (P := Try.prog) 32 3 .i64 8 (by kernel_rfl) (by kernel_rfl) (by omega) n (by omega)
  have HR : Hid (Kd.C (Kd.int .i64) w A ds.length ds) := hr
  clear hr
  go_enter Try.func41, Try.ntmps41
  go_wp2
  have HS0 : Hid (Sts (w.alloc (.cells (madeCells #[.int .i64 0, .int .i64 0, .int .i64 0] (n * 3)) 155)) w.heap.size n (start n)) := made_sts w n
  have HB0 : Hid (Below w.heap.size w (w.alloc (.cells (madeCells #[.int .i64 0, .int .i64 0, .int .i64 0] (n * 3)) 155))) := (Below.refl _ _).alloc (Nat.le_refl _) _
  generalize w.alloc (.cells (madeCells #[.int .i64 0, .int .i64 0, .int .i64 0] (n * 3)) 155) = W0 at HS0 HB0 ⊢
  obtain ⟨g, hg⟩ : ∃ g, g = w.heap.size := ⟨_, rfl⟩
  rw [← hg] at HS0 ⊢
  have HGE : Hid (g = w.heap.size) := hg
  clear hg
  go_loopg [7, 8] 300 (fun m us lf W => ∃ s : Cst, us = .int .i64 s.us ∧ lf = .int .i64 s.lf ∧ Hid (Good n s) ∧ Hid (mu n s ≤ m) ∧ Hid (runs ds n m s = runs ds n 300 (start n)) ∧ Hid (Sts W g n s) ∧ Hid (Below w.heap.size w W))
  case atStart => exact ⟨start n, rfl, rfl, start_good n, start_mu n hn, rfl, HS0, HB0⟩
  case round =>
    clear HS0 HB0
    obtain ⟨s, rfl, rfl, HG, HM, HRU, HS, HB⟩ := hrel
    by_cases hlf : 0 < s.lf
    · obtain ⟨m, rfl⟩ : ∃ m, gk = m + 1 := ⟨gk - 1, by have := mu_pos HG.out hlf; have := HM.out; omega⟩
      have HRU2 : Hid (runs ds n m (cstep ds n s) = runs ds n 300 (start n)) := HRU.out ▸ (if_pos hlf).symm
      clear HRU
      go_wp2
      go_loopw [9, 38] (fun v i W => ∃ (k c9 : Nat) (A9 : Option Addr), k ≤ n ∧ i = .int .i64 k ∧ v = .slice A9 (scan s.nx k).2.length c9 ∧ Hid (W.ownsRow w.heap.size 3 1 (.slice A9 (scan s.nx k).2.length c9) (scan s.nx k).2.length (nums .i64 (scan s.nx k).2)) ∧ Hid (Sts W g n s) ∧ Hid (Below w.heap.size w W)) (fun _ i _ => n - (intOf i).toNat)
      case atStart => exact ⟨0, 0, none, by omega, rfl, rfl, own_nil _ _ _ _, HS, HB⟩
      case round =>
        clear HS HB
        obtain ⟨k, c9, A9, hk, rfl, rfl, HO, HS, HB⟩ := hrel
        by_cases hlt : k < n
        · obtain ⟨cs, hb, hsz, hcs⟩ := HS.out
          obtain ⟨h0, h1, h2⟩ := hcs k hlt
          have k0 := hb.cell _ h0
          have k1 := hb.cell _ h1
          have k2 := hb.cell _ h2
          clear h0 h1 h2 hcs hsz
          have hb := Lib.hid hb
          have HX : Hid (s.nx.getD k 0 = s.nx.getD k 0) := rfl
          have HSC : Hid (scan s.nx (k + 1) = if s.nx.getD k 0 < 0 then scan s.nx k else if (scan s.nx k).2 = [] ∨ s.nx.getD k 0 < (scan s.nx k).1 then (s.nx.getD k 0, [(k : Int)]) else if s.nx.getD k 0 = (scan s.nx k).1 then ((scan s.nx k).1, (scan s.nx k).2 ++ [(k : Int)]) else scan s.nx k) := rfl
          have HOK := Lib.hid (scan_ok s.nx k)
          generalize s.nx.getD k 0 = x at k0 HX HSC
          generalize s.tr.getD k 0 = y at k1
          generalize s.sn.getD k 0 = z at k2
          by_cases cx : x < 0
          · have HS1 := Lib.hid (HSC.out.trans (if_pos cx))
            clear HSC
            go_wp2
            go_roundw
            case rel => exact ⟨k + 1, c9, A9, by omega, by simp, by rw [HS1.out], by show World.ownsRow _ _ _ _ _ _ _; rw [HS1.out]; exact HO.out.alloc _, HS.out.alloc _, HB.out.alloc HB.out.size _⟩
            case measure => simp [intOf]; try omega
          · have HS1 := Lib.hid (HSC.out.trans (if_neg cx))
            clear HSC
            go_wp2
            have HS2 : Hid (Sts (wr.alloc (.cells #[.int .i64 x, .int .i64 y, .int .i64 z] 155)) g n s) := HS.out.alloc _
            have HO2 : Hid ((wr.alloc (.cells #[.int .i64 x, .int .i64 y, .int .i64 z] 155)).ownsRow w.heap.size 3 1 (.slice A9 (scan s.nx k).2.length c9) (scan s.nx k).2.length (nums .i64 (scan s.nx k).2)) := HO.out.alloc _
            have HB2 : Hid (Below w.heap.size w (wr.alloc (.cells #[.int .i64 x, .int .i64 y, .int .i64 z] 155))) := HB.out.alloc HB.out.size _
            have HQ : Hid (Blk (wr.alloc (.cells #[.int .i64 x, .int .i64 y, .int .i64 z] 155)) wr.heap.size #[.int .i64 x, .int .i64 y, .int .i64 z] 155) := Blk.new _ _ _
            clear HS HO HB hb k0 k1 k2
            generalize wr.alloc (.cells #[.int .i64 x, .int .i64 y, .int .i64 z] 155) = W2 at HS2 HO2 HB2 HQ ⊢
            generalize wr.heap.size = b at HQ ⊢
            have q0 := HQ.out.cell 0 rfl
            clear HQ
            by_cases ce : (scan s.nx k).2 = []
            · have HS3 := Lib.hid (HS1.out.trans (if_pos (.inl ce)))
              clear HS1
              rw [ce] at HO2 ⊢
              simp only [List.length_nil] at HO2 ⊢
              go_quiet (fail)
              go_wp2
              go_quiet (fail)
              go_wp2_with (at_builtin; refine print_append_num w.heap.size rfl (.tmp 76) (.tmp 78) 32 3 .i64 8 rfl Try.underlying32 infoI8 (by omega) _ [] _ rfl rfl (own_drewN HO2.out _) (below_drewN HB2.out _) HB2.out.size (by decide) ?_; intro v1 w1 hown hB hgr hat; have HS5 := Lib.hid ((HS2.out.drewN _).after (own_drewN HO2.out _) hgr); have HO5 := Lib.hid hown; have HB5 := Lib.hid hB; clear hown hB hgr hat)
              obtain ⟨A5, c5, rfl⟩ := own_slice HO5.out
              go_roundw
              case rel => exact ⟨k + 1, c5, A5, by omega, by simp, by rw [HS3.out]; rfl, by show World.ownsRow _ _ _ _ _ _ _; rw [HS3.out]; exact HO5.out, HS5, HB5⟩
              case measure => simp [intOf]; try omega
            · obtain ⟨y0, rest, hl⟩ : ∃ y0 rest, (scan s.nx k).2 = y0 :: rest := by
                cases h : (scan s.nx k).2 with
                | nil => exact absurd h ce
                | cons a l => exact ⟨a, l, rfl⟩
              obtain ⟨i0, rfl, hi0, hm0⟩ := HOK.out.1 y0 (by rw [hl]; simp)
              have hlen := scan_len s.nx k
              have HL := Lib.hid hl
              clear hl
              generalize hL : (scan s.nx k).2 = L at *
              generalize hM : (scan s.nx k).1 = mm at *
              have hL1 : 0 < L.length := by rw [HL.out]; simp
              have HLen : Hid (L.length ≤ k) := hlen
              obtain ⟨hh, cap, hA, hb1, hb2⟩ := HO2.out.form hL1
              injection hA with hA1 hA2 hA3
              subst hA1
              subst hA3
              have r0 : W2.cell? ⟨hh, 0, none⟩ = some (.int .i64 (i0 : Int)) := by
                have := (own_at HO2.out 0 (by omega) (by omega)).1
                rw [show rd L 0 = (i0 : Int) by rw [HL.out]; rfl] at this
                exact this
              have l0 : W2.cell? ⟨g, i0 * 3, none⟩ = some (.int .i64 mm) := by
                obtain ⟨cs2, hb2, _, hc2⟩ := HS2.out
                have := hb2.cell _ (hc2 i0 (by omega)).1
                rw [hm0] at this
                exact this
              have hLp : (0 < (L.length : Int)) = True := eq_true (by omega)
              have hi0n : ((i0 : Int) < (n : Int)) = True := eq_true (by omega)
              by_cases c1 : x < mm
              · have HS3 := Lib.hid (HS1.out.trans (if_pos (.inr c1)))
                clear HS1 hm0 hL hM
                go_quiet (fail)
                go_wp2
                go_quiet (fail)
                go_wp2_with (at_builtin; refine print_append_num w.heap.size rfl (.tmp 76) (.tmp 78) 32 3 .i64 8 rfl Try.underlying32 infoI8 (by omega) _ [] _ rfl rfl (own_nil _ _ _ _) (below_drewN HB2.out _) HB2.out.size (by decide) ?_; intro v1 w1 hown hB hgr hat; have HS5 := Lib.hid ((HS2.out.drewN _).after (own_nil _ w.heap.size 3 1) hgr); have HO5 := Lib.hid hown; have HB5 := Lib.hid hB; clear hown hB hgr hat)
                obtain ⟨A5, c5, rfl⟩ := own_slice HO5.out
                go_roundw
                case rel => exact ⟨k + 1, c5, A5, by omega, by simp, by rw [HS3.out]; rfl, by show World.ownsRow _ _ _ _ _ _ _; rw [HS3.out]; exact HO5.out, HS5, HB5⟩
                case measure => simp [intOf]; try omega
              · have HS2' := Lib.hid (HS1.out.trans (if_neg (fun h => h.elim ce c1)))
                have HLs := Lib.hid hL
                clear HS1 hL hM
                by_cases c2 : x = mm
                · subst c2
                  have HS3 := Lib.hid (HS2'.out.trans (if_pos rfl))
                  clear HS2' hm0
                  go_quiet (fail)
                  go_wp2
                  go_quiet (fail)
                  go_wp2_with (at_builtin; have hl8 : (L.length + 1) * 8 ≤ 140737488355328 := (by have := HLen.out; omega); refine print_append_num w.heap.size rfl (.tmp 76) (.tmp 78) 32 3 .i64 8 rfl Try.underlying32 infoI8 (by omega) _ L _ rfl rfl (own_drewN HO2.out _) (below_drewN HB2.out _) HB2.out.size hl8 ?_; intro v1 w1 hown hB hgr hat; have HS5 := Lib.hid ((HS2.out.drewN _).after (own_drewN HO2.out _) hgr); have HO5 := Lib.hid hown; have HB5 := Lib.hid hB; clear hown hB hgr hat)
                  obtain ⟨A5, c5, rfl⟩ := own_slice HO5.out
                  go_roundw
                  case rel => exact ⟨k + 1, c5, A5, by omega, by simp, by rw [HS3.out], by show World.ownsRow _ _ _ _ _ _ _; rw [HS3.out]; exact HO5.out, HS5, HB5⟩
                  case measure => simp [intOf]; try omega
                · have HS3 := Lib.hid (HS2'.out.trans (if_neg c2))
                  clear HS2' hm0
                  have c2b : (x == mm) = false := by simpa using c2
                  go_quiet (fail)
                  go_wp2
                  go_quiet (fail)
                  go_wp2
                  go_roundw
                  case rel => exact ⟨k + 1, c9, _, by omega, by simp, by rw [HS3.out, HLs.out], by show World.ownsRow _ _ _ _ _ _ _; rw [HS3.out, HLs.out]; exact own_drewN HO2.out _, HS2.out.drewN _, below_drewN HB2.out _⟩
                  case measure => simp [intOf]; try omega
        · obtain rfl : n = k := by omega
          have hne := scan_some HG.out hlf
          have HOK := Lib.hid (scan_ok s.nx n)
          have HPN := Lib.hid (scan_pend n s)
          have HST : Hid (cstep ds n s = if (scan s.nx n).2.length = 1 then ⟨s.nx.set ((scan s.nx n).2.getD 0 0).toNat (-1), s.tr, s.sn.set ((scan s.nx n).2.getD 0 0).toNat (scan s.nx n).1, s.lf - 1, s.us⟩ else collAll ds (scan s.nx n).1 (scan s.nx n).2 s) := rfl
          obtain ⟨y0, rest, hl⟩ : ∃ y0 rest, (scan s.nx n).2 = y0 :: rest := by
            cases h : (scan s.nx n).2 with
            | nil => exact absurd h hne
            | cons a l => exact ⟨a, l, rfl⟩
          obtain ⟨i0, rfl, hi0, hm0⟩ := HOK.out.1 y0 (by rw [hl]; simp)
          have hmm := (HOK.out.2.2.1 hne).1
          have hlen := scan_len s.nx n
          have HL := Lib.hid hl
          clear hl HOK hne
          generalize hL : (scan s.nx n).2 = L at *
          generalize hM : (scan s.nx n).1 = mm at *
          clear hL hM
          have hL1 : 0 < L.length := by rw [HL.out]; simp
          obtain ⟨hh, cap, hA, hb1, hb2⟩ := HO.out.form hL1
          injection hA with hA1 hA2 hA3
          subst hA1
          subst hA3
          have r0 : wr.cell? ⟨hh, 0, none⟩ = some (.int .i64 (i0 : Int)) := by
            have := (own_at HO.out 0 (by omega) (by omega)).1
            rw [show rd L 0 = (i0 : Int) by rw [HL.out]; rfl] at this
            exact this
          obtain ⟨l0, l1, l2, lf⟩ := HS.out.cells hi0
          rw [hm0] at l0
          have hLp : (0 < (L.length : Int)) = True := eq_true (by omega)
          have hi0n : ((i0 : Int) < (n : Int)) = True := eq_true (by omega)
          have HCG := cstep_good (ds := ds) HG.out hlf
          have HCG := Lib.hid HCG
          have HLF : Hid (s.lf ≤ 16 ∧ s.us ≤ 272 ∧ mm ≤ 1024 * 272) := by
            have h1 := HG.out.lf
            have h2 := HG.out.u1
            have h3 := sum_le HG.out hn
            have h4 := HG.out.hi i0 hi0
            rw [hm0] at h4
            have h5 : act s.nx ≤ s.nx.length := by unfold act; exact_mod_cast List.countP_le_length
            have h6 := HG.out.ln
            exact ⟨by omega, by omega, by omega⟩
          by_cases c1 : L.length = 1
          · have HS1 := Lib.hid (HST.out.trans (if_pos c1))
            have f0 := lf (i0 * 3)
            have f2 := lf (i0 * 3 + 2)
            clear HST lf
            have hgh : Hid (hh ≠ g) := HS.out.apart HO.out rfl
            have hlf16 := HLF.out.1
            have e0 : (L.getD 0 0).toNat = i0 := by rw [HL.out]; simp
            rw [e0] at HS1
            clear e0
            go_wp2
            have hgh1 := hgh.out
            have hgh2 := Ne.symm hgh1
            go_region
            go_wp2
            have hge : w.heap.size ≤ g := Nat.le_of_eq HGE.out.symm
            go_roundg m
            case rel => exact ⟨⟨s.nx.set i0 (-1), s.tr, s.sn.set i0 mm, s.lf - 1, s.us⟩, rfl, rfl, HS1.out ▸ HCG.out.1, by have h1 := HCG.out.2; rw [HS1.out] at h1; have h2 := HM.out; show _ ≤ _; omega, HS1.out ▸ HRU2.out, by have h := (HS.out.setS hi0 HG.out.ls mm).setN hi0 HG.out.ln (-1); exact h, below_drew1 ((HB.out.setCell hge _).setCell hge _)⟩
            case measure => omega
          · have HS1 := Lib.hid (HST.out.trans (if_neg c1))
            clear HST lf l1 l2
            go_wp2
            clear r0 l0
            go_loopw [7, 8, 108] (fun us lf i W => ∃ (k : Nat), k ≤ L.length ∧ i = .int .i64 k ∧ us = .int .i64 (collAll ds mm (L.take k) s).us ∧ lf = .int .i64 (collAll ds mm (L.take k) s).lf ∧ Hid (Good n (collAll ds mm (L.take k) s)) ∧ Hid (Pend n mm (L.drop k) (collAll ds mm (L.take k) s)) ∧ Hid (W.ownsRow w.heap.size 3 1 (.slice (some ⟨hh, 0, none⟩) L.length c9) L.length (nums .i64 L)) ∧ Hid (Sts W g n (collAll ds mm (L.take k) s)) ∧ Hid (Below w.heap.size w W)) (fun _ _ i _ => L.length - (intOf i).toNat)
            case atStart => exact ⟨0, by omega, rfl, rfl, rfl, HG, HPN, HO, HS, HB⟩
            case round =>
              clear HS HB HO HPN
              obtain ⟨k, hk, rfl, rfl, rfl, HGk, HPk, HO, HS, HB⟩ := hrel
              by_cases hlt : k < L.length
              · obtain ⟨j, hj, hjn, hjm⟩ := HPk.out.2 (L.getD k 0) (by rw [List.drop_eq_getElem_cons hlt, List.getD_eq_getElem?_getD, List.getElem?_eq_getElem hlt]; exact List.mem_cons_self ..)
                have HNX : Hid (collAll ds mm (L.take (k + 1)) s = coll ds mm (collAll ds mm (L.take k) s) j) := by
                  show _ = _
                  rw [List.take_succ_eq_append_getElem hlt, collAll_snoc]
                  have : L[k] = (j : Int) := by rw [← hj, List.getD_eq_getElem?_getD, List.getElem?_eq_getElem hlt]; rfl
                  rw [this, Int.toNat_natCast]
                have hcg := coll_good (ds := ds) HGk.out hjn hjm hmm
                have HPD : Hid (Pend n mm (L.drop (k + 1)) (coll ds mm (collAll ds mm (L.take k) s) j)) := by
                  have h := HPk.out
                  rw [List.drop_eq_getElem_cons hlt] at h
                  have : L[k] = (j : Int) := by rw [← hj, List.getD_eq_getElem?_getD, List.getElem?_eq_getElem hlt]; rfl
                  rw [this] at h
                  exact h.next hcg.2.2
                have HGN : Hid (Good n (coll ds mm (collAll ds mm (L.take k) s) j)) := hcg.1
                have HCO : Hid (coll ds mm (collAll ds mm (L.take k) s) j = if (collAll ds mm (L.take k) s).tr.getD j 0 + 1 > 16 then ⟨(collAll ds mm (L.take k) s).nx.set j (-1), (collAll ds mm (L.take k) s).tr.set j ((collAll ds mm (L.take k) s).tr.getD j 0 + 1), (collAll ds mm (L.take k) s).sn.set j (-1), (collAll ds mm (L.take k) s).lf - 1, (collAll ds mm (L.take k) s).us⟩ else ⟨(collAll ds mm (L.take k) s).nx.set j (mm + 1 + wt ((collAll ds mm (L.take k) s).tr.getD j 0 + 1) (dr ds (collAll ds mm (L.take k) s).us)), (collAll ds mm (L.take k) s).tr.set j ((collAll ds mm (L.take k) s).tr.getD j 0 + 1), (collAll ds mm (L.take k) s).sn, (collAll ds mm (L.take k) s).lf, (collAll ds mm (L.take k) s).us + 1⟩) := rfl
                clear hcg HPk
                generalize hst : collAll ds mm (L.take k) s = st at *
                clear hst
                obtain ⟨l0, l1, l2, lf⟩ := HS.out.cells hjn
                rw [hjm] at l0
                have hb0 := HGk.out.u0
                have hb1 : st.us ≤ 272 := by have h1 := HGk.out.u1; have h2 := sum_le HGk.out hn; omega
                have hb3 : st.lf ≤ 16 := by
                  have h1 := HGk.out.lf
                  have h5 : act st.nx ≤ st.nx.length := by unfold act; exact_mod_cast List.countP_le_length
                  have h6 := HGk.out.ln
                  omega
                have hb4 : 0 ≤ st.lf := by
                  have h1 := HGk.out.lf
                  unfold act at h1; omega
                have htr := HGk.out.t0 j hjn
                have htr0 := htr.1
                have htr1 := htr.2
                clear htr
                have rk : wr.cell? ⟨hh, k, none⟩ = some (.int .i64 (j : Int)) := by
                  have := (own_at HO.out k (by omega) (by omega)).1
                  rw [show rd L k = (j : Int) by rw [← hj]; unfold rd; rw [Int.toNat_natCast]] at this
                  simpa using this
                have f0 := lf (j * 3)
                have f1 := lf (j * 3 + 1)
                have f2 := lf (j * 3 + 2)
                have hgh : hh ≠ g := HS.out.apart HO.out rfl
                have hgh2 := Ne.symm hgh
                have HJ := Lib.hid hj
                have HMM := Lib.hid hmm
                clear hj hjm lf hmm hm0
                have hjn' : ((j : Int) < (n : Int)) = True := eq_true (by omega)
                have hlt' : ((k : Int) < (L.length : Int)) = True := eq_true (by omega)
                have HKN : Hid (∀ p u, p.block = g → (wr.setCell p u).ownsRow w.heap.size 3 1 (.slice (some ⟨hh, 0, none⟩) L.length c9) L.length (nums .i64 L)) := fun p u hp => own_setCell HO.out (by rw [hp]; simp [Value.ownBlock, hgh2]) u
                generalize htrq : st.tr.getD j 0 = tr at *
                have HTQ := Lib.hid htrq
                clear htrq
                have hge : w.heap.size ≤ g := Nat.le_of_eq HGE.out.symm
                have HE0 : Hid (collAll ds mm (L.take (k + 1)) s = if tr + 1 > 16 then ⟨st.nx.set j (-1), st.tr.set j (tr + 1), st.sn.set j (-1), st.lf - 1, st.us⟩ else ⟨st.nx.set j (mm + 1 + wt (tr + 1) (dr ds st.us)), st.tr.set j (tr + 1), st.sn, st.lf, st.us + 1⟩) := HNX.out.trans HCO.out
                have HGN2 : Hid (Good n (collAll ds mm (L.take (k + 1)) s)) := HNX.out ▸ HGN.out
                have HPD2 : Hid (Pend n mm (L.drop (k + 1)) (collAll ds mm (L.take (k + 1)) s)) := HNX.out ▸ HPD.out
                clear HNX HCO HGN HPD HTQ
                go_upto_region 28 with (fail)
                have HS2 : Hid (Sts (wr.setCell ⟨g, j * 3 + 1, none⟩ (.int .i64 (tr + 1))) g n ⟨st.nx, st.tr.set j (tr + 1), st.sn, st.lf, st.us⟩) := HS.out.setT hjn HGk.out.lt (tr + 1)
                have HO2 := Lib.hid (HKN.out ⟨g, j * 3 + 1, none⟩ (.int .i64 (tr + 1)) rfl)
                have HB2 : Hid (Below w.heap.size w (wr.setCell ⟨g, j * 3 + 1, none⟩ (.int .i64 (tr + 1)))) := HB.out.setCell hge _
                have hq : (wr.setCell ⟨g, j * 3 + 1, none⟩ (.int .i64 (tr + 1))).cell? ⟨g, j * 3 + 1, none⟩ = some (.int .i64 (tr + 1)) := by
                  have := (HS2.out.cells hjn).2.1
                  rw [show (Cst.tr ⟨st.nx, st.tr.set j (tr + 1), st.sn, st.lf, st.us⟩).getD j 0 = tr + 1 by show (st.tr.set j (tr + 1)).getD j 0 = _; rw [getD_set _ _ _ _ (by rw [HGk.out.lt]; exact hjn), if_pos rfl]] at this
                  exact this
                clear HS HO HB HKN f0 f1 f2 l0 l1 l2 rk
                generalize wr.setCell ⟨g, j * 3 + 1, none⟩ (.int .i64 (tr + 1)) = W2 at HS2 HO2 HB2 hq ⊢
                have l0 := (HS2.out.cells hjn).1
                have l2 := (HS2.out.cells hjn).2.2.1
                have lf := (HS2.out.cells hjn).2.2.2
                have f0 := lf (j * 3)
                have f2 := lf (j * 3 + 2)
                have HKN : Hid (∀ p u, p.block = g → (W2.setCell p u).ownsRow w.heap.size 3 1 (.slice (some ⟨hh, 0, none⟩) L.length c9) L.length (nums .i64 L)) := fun p u hp => own_setCell HO2.out (by rw [hp]; simp [Value.ownBlock, hgh2]) u
                clear lf
                by_cases cb : tr + 1 > 16
                · have HE := Lib.hid (HE0.out.trans (if_pos cb))
                  clear HE0
                  go_wp2
                  go_roundw
                  case rel => exact ⟨k + 1, by omega, by simp, by rw [HE.out], by rw [HE.out], HGN2, HPD2, own_setCell (HKN.out ⟨g, j * 3 + 2, none⟩ (.int .i64 (-1)) rfl) (by simp [Value.ownBlock, hgh2]) _, by show Sts _ _ _ _; rw [HE.out]; exact (HS2.out.setS hjn HGk.out.ls (-1)).setN hjn HGk.out.ln (-1), (HB2.out.setCell hge _).setCell hge _⟩
                  case measure => simp [intOf]; omega
                · have HE := Lib.hid (HE0.out.trans (if_neg cb))
                  clear HE0
                  have hdb := wt_range (tr + 1) (dr ds st.us)
                  have hwt0 := hdb.1
                  have hwt1 := hdb.2
                  have hmmb := HLF.out.2.2
                  have hmm0 : 0 ≤ mm := HMM.out
                  clear hdb
                  by_cases cd : ds.length = 0
                  · have HW : Hid (∀ W : World, Calls Try.prog 39 #[.int .i64 (tr + 1), .int .i64 0] W fun e w' => e = .returned (.tuple #[.int .i64 (wt (tr + 1) (dr ds st.us)), .int .i64 0]) ∧ Drawn0 W w') := fun W => by
                      have := wait_calls (tr + 1) 0 (by omega) (by omega) W
                      rwa [show dr ds st.us = 0 from if_pos cd]
                    generalize wt (tr + 1) (dr ds st.us) = x at *
                    have cd2 : (0 < (ds.length : Int)) = False := eq_false (by omega)
                    have cd3 : (0 < ds.length) = False := eq_false (by omega)
                    clear cd
                    go_wp2_with (go_at_call 39; ((with_reducible refine (HW.out _).mono ?_)); rintro e w1 ⟨rfl, ⟨mw, rfl⟩⟩)
                    go_roundw
                    case rel => exact ⟨k + 1, by omega, by simp, by rw [HE.out], by rw [HE.out], HGN2, HPD2, own_drewN (HKN.out ⟨g, j * 3, none⟩ (.int .i64 (mm + 1 + x)) rfl) _, by show Sts _ _ _ _; rw [HE.out]; exact (HS2.out.setN hjn HGk.out.ln (mm + 1 + x)).drewN _, below_drewN (HB2.out.setCell hge _) _⟩
                    case measure => simp [intOf]; omega
                  · have hw2 : w.heap.size ≤ W2.heap.size := HB2.out.size
                    have hC := Kd.C_below HR.out HB2.out
                    obtain ⟨hu0, hu1⟩ : 0 ≤ st.us % (ds.length : Int) ∧ st.us % (ds.length : Int) < ds.length := ⟨Int.emod_nonneg _ (by omega), Int.emod_lt_of_pos _ (by omega)⟩
                    obtain ⟨ad, cs, rfl, hl, hcs, hcell⟩ := Kd.C_get hC 0 (st.us % (ds.length : Int)) hu0 hu1
                    have hcs' : cs = [Value.int .i64 (rd ds (st.us % (ds.length : Int)))] := hcs
                    have hck := hcell 0 _ (by rw [hcs']; rfl)
                    have e1 : (Kd.int .i64).sz = 1 := rfl
                    rw [e1] at hck
                    simp only [Nat.mul_one, Nat.add_zero] at hck
                    have hdr : dr ds st.us = rd ds (st.us % (ds.length : Int)) := (if_neg cd).trans rfl
                    have HW : Hid (∀ W : World, Calls Try.prog 39 #[.int .i64 (tr + 1), .int .i64 (rd ds (st.us % (ds.length : Int)))] W fun e w' => e = .returned (.tuple #[.int .i64 (wt (tr + 1) (dr ds st.us)), .int .i64 0]) ∧ Drawn0 W w') := fun W => by
                      rw [hdr]; exact wait_calls (tr + 1) _ (by omega) (by omega) W
                    clear hdr hcs hcs' hcell hC hl e1
                    generalize wt (tr + 1) (dr ds st.us) = x at *
                    generalize rd ds (st.us % (ds.length : Int)) = y at *
                    have cd2 : (0 < (ds.length : Int)) = True := eq_true (by omega)
                    have cd3 : 0 < ds.length := by omega
                    clear cd
                    go_wp2_with (go_at_call 39; ((with_reducible refine (HW.out _).mono ?_)); rintro e w1 ⟨rfl, ⟨mw, rfl⟩⟩)
                    go_roundw
                    case rel => exact ⟨k + 1, by omega, by simp, by rw [HE.out], by rw [HE.out], HGN2, HPD2, own_drewN (HKN.out ⟨g, j * 3, none⟩ (.int .i64 (mm + 1 + x)) rfl) _, by show Sts _ _ _ _; rw [HE.out]; exact (HS2.out.setN hjn HGk.out.ln (mm + 1 + x)).drewN _, below_drewN (HB2.out.setCell hge _) _⟩
                    case measure => simp [intOf]; omega
              · obtain rfl : k = L.length := by omega
                rw [List.take_length] at HGk HS ⊢
                have HE := Lib.hid HS1.out.symm
                clear HPk
                go_wp2
                go_roundg m
                case rel => exact ⟨cstep ds n s, by rw [HE.out], by rw [HE.out], HCG.out.1, by have h1 := HCG.out.2; have h2 := HM.out; show _ ≤ _; omega, HRU2.out, HE.out ▸ HS.out, HB.out⟩
                case measure => omega
    · have HF : Hid (contended ds n = s.sn) := by
        show (runs ds n 300 (start n)).sn = _
        rw [← HRU.out, runs_stop ds n _ s (by omega)]
      have hls := HG.out.ls
      go_wp2
      have HOM : Hid ((wr.alloc (.cells (madeCells #[.int .i64 0] n) 3)).ownsRow w.heap.size 3 1 (.slice (some ⟨wr.heap.size, 0, none⟩) n n) n (nums .i64 (s.sn.take 0 ++ List.replicate (n - 0) 0))) := by
        have h := own_made wr w.heap.size 3 .i64 n HB.out.size (by omega)
        show World.ownsRow _ _ _ _ _ _ _
        simpa using h
      have HSM : Hid (Sts (wr.alloc (.cells (madeCells #[.int .i64 0] n) 3)) g n s) := HS.out.alloc _
      have HBM : Hid (Below w.heap.size w (wr.alloc (.cells (madeCells #[.int .i64 0] n) 3))) := HB.out.alloc HB.out.size _
      have hbw : w.heap.size ≤ wr.heap.size := HB.out.size
      clear HS HB HM HRU
      generalize wr.alloc (.cells (madeCells #[.int .i64 0] n) 3) = W1 at HOM HSM HBM ⊢
      generalize wr.heap.size = b at HOM hbw ⊢
      clear hlf
      go_loopw [168] (fun i W => ∃ (k : Nat), k ≤ n ∧ i = .int .i64 k ∧ Hid (W.ownsRow w.heap.size 3 1 (.slice (some ⟨b, 0, none⟩) n n) n (nums .i64 (s.sn.take k ++ List.replicate (n - k) 0))) ∧ Hid (Sts W g n s) ∧ Hid (Below w.heap.size w W)) (fun i _ => n - (intOf i).toNat)
      case atStart => exact ⟨0, by omega, rfl, HOM, HSM, HBM⟩
      case round =>
        clear HOM HSM HBM
        obtain ⟨k, hk, rfl, HO, HS, HB⟩ := hrel
        by_cases hlt : k < n
        · obtain ⟨l0, l1, l2, lf⟩ := HS.out.cells hlt
          have hlt' : ((k : Int) < (n : Int)) = True := eq_true (by omega)
          obtain ⟨hc0, hf0⟩ := own_at HO.out k (by omega) (by omega)
          rw [Int.toNat_natCast] at hc0 hf0
          have HNX : Hid ((s.sn.take k ++ List.replicate (n - k) 0).set k (s.sn.getD k 0) = s.sn.take (k + 1) ++ List.replicate (n - (k + 1)) 0) := sn_step s.sn n k hls hlt
          have HO2 : Hid ((wr.alloc (.cells #[.int .i64 (s.nx.getD k 0), .int .i64 (s.tr.getD k 0), .int .i64 (s.sn.getD k 0)] 155)).ownsRow w.heap.size 3 1 (.slice (some ⟨b, 0, none⟩) n n) n (nums .i64 (s.sn.take k ++ List.replicate (n - k) 0))) := HO.out.alloc _
          have HS2 : Hid (Sts (wr.alloc (.cells #[.int .i64 (s.nx.getD k 0), .int .i64 (s.tr.getD k 0), .int .i64 (s.sn.getD k 0)] 155)) g n s) := HS.out.alloc _
          have HB2 : Hid (Below w.heap.size w (wr.alloc (.cells #[.int .i64 (s.nx.getD k 0), .int .i64 (s.tr.getD k 0), .int .i64 (s.sn.getD k 0)] 155))) := HB.out.alloc HB.out.size _
          have hbl : b < wr.heap.size := own_lt HO.out b rfl
          generalize s.nx.getD k 0 = x at *
          generalize s.tr.getD k 0 = y at *
          generalize s.sn.getD k 0 = z at *
          go_upto_region 42 with (fail)
          have q0 : (wr.alloc (.cells #[.int .i64 x, .int .i64 y, .int .i64 z] 155)).cell? ⟨wr.heap.size, 2, none⟩ = some (.int .i64 z) := (Blk.new wr _ _).cell 2 rfl
          obtain ⟨hc2, hf2⟩ := own_at HO2.out k (by omega) (by omega)
          rw [Int.toNat_natCast] at hc2 hf2
          have hne : b ≠ g := HS2.out.apart HO2.out rfl
          clear l0 l1 l2 lf HO HS HB hc0 hf0
          generalize wr.alloc (.cells #[.int .i64 x, .int .i64 y, .int .i64 z] 155) = W2 at HO2 HS2 HB2 q0 hc2 hf2 ⊢
          generalize wr.heap.size = c2 at q0 ⊢
          go_wp2
          go_roundw
          case rel =>
            have h1 := (own_store HO2.out (k : Int) z).1
            rw [Int.toNat_natCast, HNX.out] at h1
            exact ⟨k + 1, by omega, by simp, h1, HS2.out.other hne _ _, HB2.out.setCell hbw _⟩
          case measure => simp [intOf]; omega
        · obtain rfl : k = n := by omega
          rw [List.take_of_length_le (by omega), Nat.sub_self, List.replicate_zero, List.append_nil] at HO
          go_wp2
          go_ret2
          refine ⟨_, rfl, ?_, HB.out⟩
          rw [HF.out]
          have h2 := HO.out
          have h3 : s.sn.length = k := hls
          exact Kd.R_of_own (enc := Value.int .i64) (h1 := fun _ => rfl) (by rw [h3]; exact h2) (fun _ _ => trivial)
end Go.Proofs.Ytfeddgeihpfjfaa
