/- package learn: Find, Drop, Size. -/
import Derived.Test.YtfeddgeihpfjfaaLearn1
set_option linter.unusedVariables false
set_option linter.unusedSimpArgs false
namespace Go.Proofs.Ytfeddgeihpfjfaa
open Go.RowKit Go.Proofs.YtfeddgeihpfjfaaW.PrintWords

theorem Tab.blk {W : World} {g : Nat} {TS TE : TypeId} {age room last : Int} {es : List Ent} (H : Tab W g TS TE age room last es) : ∃ v, Blk W g #[.int .i64 age, .int .i64 room, .int .i64 last, v] TS := by
  obtain ⟨A, c, _, _, hb, _⟩ := H
  exact ⟨_, hb⟩
theorem atT (g : Nat) (age room last now : Int) (es : List Ent) (w : World) (h : Tab w g 168 170 age room last es) :
    Calls Try.prog 106 #[.pointer (some ⟨g, 0, none⟩), .int .i64 now] w fun e w' => e = .returned (.int .i64 (timeE last now)) ∧ w = w' := by
  obtain ⟨v, hb⟩ := h.blk
  exact learnAt_any g age room last now v w hb
theorem learnFind_err (g : Nat) (age room last link now : Int) (es : List Ent) (w : World) (h : Tab w g 168 170 age room last es) (ht : timeE last now ≠ 0) :
    Calls Try.prog 60 #[.pointer (some ⟨g, 0, none⟩), .int .i64 link, .int .i64 now] w fun e w' => e = .returned (.tuple #[.int .i64 0, .bool false, .int .i64 (timeE last now)]) ∧ w = w' := by
  have HA := Lib.hid (atT g age room last now es w h)
  clear h
  generalize timeE last now = t at HA ht ⊢
  have q : (t != 0) = true := by simpa using ht
  clear ht
  go_enter Try.func60, Try.ntmps60
  go_wp2_with (go_at_call 106; ((with_reducible refine HA.out.mono ?_)); rintro e w1 ⟨rfl, rfl⟩)
  go_ret3
  exact ⟨rfl, rfl⟩
theorem learnSize_err (g : Nat) (age room last now : Int) (es : List Ent) (w : World) (h : Tab w g 168 170 age room last es) (ht : timeE last now ≠ 0) :
    Calls Try.prog 65 #[.pointer (some ⟨g, 0, none⟩), .int .i64 now] w fun e w' => e = .returned (.tuple #[.int .i64 0, .int .i64 (timeE last now)]) ∧ w = w' := by
  have HA := Lib.hid (atT g age room last now es w h)
  clear h
  generalize timeE last now = t at HA ht ⊢
  have q : (t != 0) = true := by simpa using ht
  clear ht
  go_enter Try.func65, Try.ntmps65
  go_wp2_with (go_at_call 106; ((with_reducible refine HA.out.mono ?_)); rintro e w1 ⟨rfl, rfl⟩)
  go_ret2
  exact ⟨rfl, rfl⟩
theorem timeE_zero {last now : Int} (h : timeE last now = 0) : 0 ≤ now ∧ now ≤ 1000000000 ∧ last ≤ now := by
  unfold timeE at h
  by_cases c : now < 0 ∨ 1000000000 < now
  · rw [if_pos c] at h; omega
  · rw [if_neg c] at h
    by_cases c2 : now < last
    · rw [if_pos c2] at h; omega
    · omega
theorem learnSize_ok (g : Nat) (age room last now : Int) (es : List Ent) (w : World) (h : Tab w g 168 170 age room last es) (hk : TabOK age room last es) (ht : timeE last now = 0) :
    Calls Try.prog 65 #[.pointer (some ⟨g, 0, none⟩), .int .i64 now] w fun e w' => e = .returned (.tuple #[.int .i64 ((freshL age now es).length : Int), .int .i64 0]) ∧ Tab w' g 168 170 age room now (freshL age now es) ∧ Fr (· = g) w w' := by
  have HA := Lib.hid (atT g age room last now es w h)
  rw [ht] at HA
  obtain ⟨t0, t1, t2⟩ := timeE_zero ht
  have HFR := Lib.hid (fresh_any g age room last now es w h (by have := hk.len; have := hk.r1; omega) (fun x hx => by have := hk.bnd x hx; have := hk.t1; omega) t0 t1)
  clear h hk ht t0 t1 t2
  generalize freshL age now es = fs at HFR ⊢
  go_enter Try.func65, Try.ntmps65
  go_wp2_with (first
    | (go_at_call 106; ((with_reducible refine HA.out.mono ?_)); rintro e w1 ⟨rfl, rfl⟩)
    | (go_at_call 107; ((with_reducible refine HFR.out.mono ?_)); rintro e w1 ⟨rfl, ht1, hf1⟩; obtain ⟨A1, c1, hb1, ho1⟩ := id ht1; have HT := Lib.hid ht1; have HF := Lib.hid hf1; have m3 := hb1.cell 3 rfl; clear ht1 hf1 hb1 ho1))
  go_ret2
  exact ⟨rfl, HT.out.tab, HF.out⟩
theorem find_drop (link : Int) (es : List Ent) (k : Nat) (h : k < es.length) : findL link (es.drop k) = if (es.getD k default).l = link then ((es.getD k default).p, true) else findL link (es.drop (k + 1)) := by
  rw [List.drop_eq_getElem_cons h, List.getD_eq_getElem?_getD, List.getElem?_eq_getElem h]; rfl
set_option maxRecDepth 100000 in
set_option maxHeartbeats 2000000 in
theorem learnFind_ok (g : Nat) (age room last link now : Int) (es : List Ent) (w : World) (h : Tab w g 168 170 age room last es) (hk : TabOK age room last es) (ht : timeE last now = 0) :
    Calls Try.prog 60 #[.pointer (some ⟨g, 0, none⟩), .int .i64 link, .int .i64 now] w fun e w' => e = .returned (.tuple #[.int .i64 (findL link (freshL age now es)).1, .bool (findL link (freshL age now es)).2, .int .i64 0]) ∧ Tab w' g 168 170 age room now (freshL age now es) ∧ Fr (· = g) w w' := by
  have HA := Lib.hid (atT g age room last now es w h)
  rw [ht] at HA
  obtain ⟨t0, t1, t2⟩ := timeE_zero ht
  have HFR := Lib.hid (fresh_any g age room last now es w h (by have := hk.len; have := hk.r1; omega) (fun x hx => by have := hk.bnd x hx; have := hk.t1; omega) t0 t1)
  have hln : Hid ((freshL age now es).length ≤ 256) := by
    have h1 := (fresh_sub age now es).length_le
    have h2 := hk.len
    have h3 := hk.r1
    show _ ≤ _
    omega
  clear h hk ht t0 t1 t2
  generalize freshL age now es = fs at HFR hln ⊢
  have HR : Hid (findL link (fs.drop 0) = findL link fs) := rfl
  generalize findL link fs = R at HR ⊢
  go_enter Try.func60, Try.ntmps60
  go_wp2_with (first
    | (go_at_call 106; ((with_reducible refine HA.out.mono ?_)); rintro e w1 ⟨rfl, rfl⟩)
    | (go_at_call 107; ((with_reducible refine HFR.out.mono ?_)); rintro e w1 ⟨rfl, ht1, hf1⟩; obtain ⟨A1, c1, hb1, ho1⟩ := id ht1; have HT := Lib.hid ht1.tab; have HEN := Lib.hid (Ents.of_own ho1); have HF := Lib.hid hf1; have m3 := hb1.cell 3 rfl; clear ht1 hf1 hb1 ho1))
  clear m3
  go_loopw [26] (fun i W => ∃ (k : Nat), k ≤ fs.length ∧ i = .int .i64 k ∧ Hid (findL link (fs.drop k) = R) ∧ Hid (Below w1.heap.size w1 W)) (fun i _ => fs.length - (intOf i).toNat)
  case atStart => exact ⟨0, by omega, rfl, HR, Below.refl _ _⟩
  case round =>
    clear HR
    obtain ⟨k, hk, rfl, HR, HBL⟩ := hrel
    have hwsz : w1.heap.size ≤ wr.heap.size := HBL.out.size
    have hl256 : fs.length ≤ 256 := hln.out
    have HFW : Hid (Fr (· = g) w wr) := HF.out.trans (Fr.of_below HBL.out)
    have HTW : Hid (Tab wr g 168 170 age room now fs) := HT.out.below HBL.out
    by_cases hlt : k < fs.length
    · have HEw : Hid (Ents wr 170 A1 fs) := HEN.out.below HBL.out (Nat.le_refl _)
      obtain ⟨hh, o, rfl, _, _⟩ := HEw.out.addr (by omega)
      obtain ⟨l0, l1, l2⟩ := HEw.out.cells hlt
      have HST := Lib.hid (find_drop link fs k hlt)
      have hlt' : ((k : Int) < (fs.length : Int)) = True := eq_true (by omega)
      generalize fs.getD k default = x at *
      obtain ⟨xl, xp, xs⟩ := x
      simp only at l0 l1 l2
      have HST1 : Hid (findL link (fs.drop k) = if xl = link then (xp, true) else findL link (fs.drop (k + 1))) := HST.out
      clear HST
      go_upto_region 8 with (fail)
      have HB2 : Hid (Below w1.heap.size w1 (wr.alloc (.cells #[.int .i64 xl, .int .i64 xp, .int .i64 xs] 170))) := HBL.out.alloc hwsz _
      have HF2 : Hid (Fr (· = g) w (wr.alloc (.cells #[.int .i64 xl, .int .i64 xp, .int .i64 xs] 170))) := HFW.out.alloc _
      have HT2 : Hid (Tab (wr.alloc (.cells #[.int .i64 xl, .int .i64 xp, .int .i64 xs] 170)) g 168 170 age room now fs) := HTW.out.below ((Below.refl _ _).alloc (Nat.le_refl _) _)
      have HQ : Hid (Blk (wr.alloc (.cells #[.int .i64 xl, .int .i64 xp, .int .i64 xs] 170)) wr.heap.size #[.int .i64 xl, .int .i64 xp, .int .i64 xs] 170) := Blk.new _ _ _
      clear l0 l1 l2 HBL HEw HFW HTW
      generalize wr.alloc (.cells #[.int .i64 xl, .int .i64 xp, .int .i64 xs] 170) = W2 at HB2 HQ HF2 HT2 ⊢
      generalize wr.heap.size = b at HQ ⊢
      have q0 := HQ.out.cell 0 rfl
      have q1 := HQ.out.cell 1 rfl
      clear HQ hwsz
      by_cases cc : xl = link
      · have HS3 := Lib.hid (HR.out.symm.trans (HST1.out.trans (if_pos cc)))
        have qc : (xl == link) = true := by simpa using cc
        clear HST1 cc
        go_wp2
        go_ret3
        exact ⟨by rw [HS3.out]; rfl, HT2.out, HF2.out⟩
      · have HS3 := Lib.hid ((HST1.out.trans (if_neg cc)).symm.trans HR.out)
        have qc : (xl == link) = false := by simpa using cc
        clear HST1 cc
        go_wp2
        go_roundw
        case rel => exact ⟨k + 1, by omega, by simp, HS3, HB2⟩
        case measure => simp [intOf]; try omega
    · obtain rfl : k = fs.length := by omega
      rw [List.drop_length] at HR
      go_wp2
      go_ret3
      exact ⟨by rw [← HR.out]; rfl, HTW.out, HFW.out⟩
set_option maxRecDepth 100000 in
set_option maxHeartbeats 2000000 in
theorem learnDrop_any (g : Nat) (age room last port : Int) (es : List Ent) (w : World) (h : Tab w g 168 170 age room last es) (hl : es.length ≤ 1000) :
    Calls Try.prog 63 #[.pointer (some ⟨g, 0, none⟩), .int .i64 port] w fun e w' => e = .returned (.int .i64 ((es.length : Int) - (dropL port es).length)) ∧ Tab w' g 168 170 age room last (dropL port es) ∧ Fr (· = g) w w' := by
  obtain ⟨A, c, hc1, hc2, hk, he⟩ := h
  have hg := hk.lt
  have m3 := hk.cell 3 rfl
  have HE := Lib.hid he
  have HK := Lib.hid hk
  have hgw := Lib.hid hg
  clear he hk hg
  go_enter Try.func63, Try.ntmps63
  go_wp2
  clear m3
  go_loopw [5, 14] (fun v i W => ∃ (k c9 : Nat) (A9 : Option Addr), k ≤ es.length ∧ i = .int .i64 k ∧ v = .slice A9 (dropL port (es.take k)).length c9 ∧ Hid (W.ownsRow w.heap.size 170 3 (.slice A9 (dropL port (es.take k)).length c9) (dropL port (es.take k)).length (cellsE (dropL port (es.take k)))) ∧ Hid (Below w.heap.size w W)) (fun _ i _ => es.length - (intOf i).toNat)
  case atStart => exact ⟨0, 0, none, by omega, rfl, rfl, own_nil _ _ _ _, Below.refl _ _⟩
  case round =>
    obtain ⟨k, c9, A9, hk, rfl, rfl, HO, HBL⟩ := hrel
    have hwsz : w.heap.size ≤ wr.heap.size := HBL.out.size
    by_cases hlt : k < es.length
    · have HEw : Hid (Ents wr 170 A es) := HE.out.below HBL.out (Nat.le_refl _)
      obtain ⟨h, o, rfl, _, _⟩ := HEw.out.addr (by omega)
      obtain ⟨l0, l1, l2⟩ := HEw.out.cells hlt
      have HST : Hid (dropL port (es.take (k + 1)) = if decide ((es.getD k default).p ≠ port) then dropL port (es.take k) ++ [es.getD k default] else dropL port (es.take k)) := filt_step _ hlt
      have HLN : Hid ((dropL port (es.take k)).length ≤ es.length) := filt_len es _ k
      have hlt' : ((k : Int) < (es.length : Int)) = True := eq_true (by omega)
      generalize es.getD k default = x at *
      obtain ⟨xl, xp, xs⟩ := x
      simp only at l0 l1 l2 HST
      go_upto_region 5 with (fail)
      have HB2 : Hid (Below w.heap.size w (wr.alloc (.cells #[.int .i64 xl, .int .i64 xp, .int .i64 xs] 170))) := HBL.out.alloc hwsz _
      have HO2 : Hid ((wr.alloc (.cells #[.int .i64 xl, .int .i64 xp, .int .i64 xs] 170)).ownsRow w.heap.size 170 3 (.slice A9 (dropL port (es.take k)).length c9) (dropL port (es.take k)).length (cellsE (dropL port (es.take k)))) := HO.out.alloc _
      have HQ : Hid (Blk (wr.alloc (.cells #[.int .i64 xl, .int .i64 xp, .int .i64 xs] 170)) wr.heap.size #[.int .i64 xl, .int .i64 xp, .int .i64 xs] 170) := Blk.new _ _ _
      clear l0 l1 l2 HO HBL HEw
      have hwsz2 : w.heap.size ≤ (wr.alloc (.cells #[.int .i64 xl, .int .i64 xp, .int .i64 xs] 170)).heap.size := by simp; omega
      generalize wr.alloc (.cells #[.int .i64 xl, .int .i64 xp, .int .i64 xs] 170) = W2 at HB2 HO2 HQ hwsz2 ⊢
      generalize wr.heap.size = b at HQ ⊢
      have q0 := HQ.out.cell 0 rfl
      have q1 := HQ.out.cell 1 rfl
      have q2 := HQ.out.cell 2 rfl
      clear HQ hwsz
      by_cases cc : xp ≠ port
      · have HS3 := Lib.hid (HST.out.trans (if_pos (decide_eq_true cc)))
        have qc : (xp != port) = true := by simpa using cc
        clear HST cc
        go_wp2_with (at_builtin; have hl8 : ((dropL port (es.take k)).length + 1) * 24 ≤ 140737488355328 := (by have := HLN.out; omega); refine print_append_cells w.heap.size rfl (.tmp 22) (.tmp 24) 166 170 _ 3 24 rfl Try.underlying166 infoE rfl (by omega) (by omega) _ _ _ [.int .i64 xl, .int .i64 xp, .int .i64 xs] rfl rfl rfl (by simp [Value.oneCell']) HO2.out HB2.out hwsz2 hl8 ?_; intro v1 w1 hown hB hgr hat; have HO5 := Lib.hid hown; have HB5 := Lib.hid hB; clear hown hB hgr hat)
        obtain ⟨A5, c5, rfl⟩ := own_slice HO5.out
        go_roundw
        case rel => exact ⟨k + 1, c5, A5, by omega, by simp, by rw [HS3.out, List.length_append]; rfl, by show World.ownsRow _ _ _ _ _ _ _; rw [HS3.out, List.length_append, cellsE_app]; exact HO5.out, HB5⟩
        case measure => simp [intOf]; try omega
      · have HS3 := Lib.hid (HST.out.trans (if_neg (by simp; omega)))
        have qc : (xp != port) = false := by simp; omega
        clear HST cc
        go_wp2
        go_roundw
        case rel => exact ⟨k + 1, c9, A9, by omega, by simp, by rw [HS3.out], by show World.ownsRow _ _ _ _ _ _ _; rw [HS3.out]; exact HO2.out, HB2⟩
        case measure => simp [intOf]; try omega
    · obtain rfl : k = es.length := by omega
      have HK9 : Hid (Blk wr g #[.int .i64 age, .int .i64 room, .int .i64 last, .slice A es.length c] 168) := blkB HBL.out hgw.out HK.out
      have m3 := HK9.out.cell 3 rfl
      have f3 := HK9.out.free 3
      have HLN := filt_len es (fun x => decide (x.p ≠ port)) es.length
      rw [List.take_length] at HO HLN ⊢
      have hl2 : (dropL port es).length ≤ es.length := HLN
      go_wp2
      go_ret
      exact ⟨by first | rfl | (congr 2; omega), (tab_put HK9.out (OwnAt.of_row HO.out) hgw.out).tab, fr_put (Fr.refl _ _) HBL.out 3 _⟩
end Go.Proofs.Ytfeddgeihpfjfaa
