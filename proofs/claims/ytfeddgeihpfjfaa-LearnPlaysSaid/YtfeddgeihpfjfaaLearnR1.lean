/- R.Seen: Time, Find, Drop, Pass. -/
import Derived.Test.YtfeddgeihpfjfaaLearn2
set_option linter.unusedVariables false
set_option linter.unusedSimpArgs false
namespace Go.Proofs.Ytfeddgeihpfjfaa
open Go.RowKit Go.Proofs.YtfeddgeihpfjfaaW.PrintWords

def btw (n a b : Int) : Bool := decide (a ≤ n) && decide (n ≤ b)
theorem between_any (n a b : Int) (w : World) :
    Calls Try.prog 99 #[.int .i64 n, .int .i64 a, .int .i64 b] w fun e w' => e = .returned (.bool (btw n a b)) ∧ w = w' := by
  unfold btw
  by_cases c : a ≤ n
  · go_enter Try.func99, Try.ntmps99
    go_wp2
    go_ret
    refine ⟨congrArg Ending.returned (congrArg Value.bool ?_), rfl⟩
    rw [decide_eq_true c]; rfl
  · go_enter Try.func99, Try.ntmps99
    go_wp2
    go_ret
    refine ⟨congrArg Ending.returned (congrArg Value.bool ?_), rfl⟩
    rw [decide_eq_false (by omega : ¬ a ≤ n)]; rfl
theorem seenTime_any (g : Nat) (age room last now : Int) (es : List Ent) (w : World) (h : Tab w g 98 172 age room last es) :
    Calls Try.prog 58 #[.pointer (some ⟨g, 0, none⟩), .int .i64 now] w fun e w' => e = .returned (.int .i64 (timeE last now)) ∧ w = w' := by
  obtain ⟨v, hb⟩ := h.blk
  have c2 := hb.cell 2 rfl
  clear h hb
  have HBT := Lib.hid (between_any now 0 1000000000 w)
  by_cases c0 : now < 0 ∨ 1000000000 < now
  · have hv : timeE last now = 1 := if_pos c0
    have hq : btw now 0 1000000000 = false := by unfold btw; rcases c0 with h | h <;> simp <;> omega
    rw [hq] at HBT
    rw [hv]; clear hv c0 hq
    go_enter Try.func58, Try.ntmps58
    go_wp2_with (go_at_call 99; ((with_reducible refine HBT.out.mono ?_)); rintro e w1 ⟨rfl, rfl⟩)
    go_ret
    exact ⟨rfl, rfl⟩
  have hq : btw now 0 1000000000 = true := by unfold btw; simp; omega
  rw [hq] at HBT
  by_cases c3 : now < last
  · have hv : timeE last now = 13 := (if_neg c0).trans (if_pos c3)
    rw [hv]; clear hv c0 hq
    go_enter Try.func58, Try.ntmps58
    go_wp2_with (go_at_call 99; ((with_reducible refine HBT.out.mono ?_)); rintro e w1 ⟨rfl, rfl⟩)
    go_ret
    exact ⟨rfl, rfl⟩
  have hv : timeE last now = 0 := (if_neg c0).trans (if_neg c3)
  rw [hv]; clear hv c0 hq
  go_enter Try.func58, Try.ntmps58
  go_wp2_with (go_at_call 99; ((with_reducible refine HBT.out.mono ?_)); rintro e w1 ⟨rfl, rfl⟩)
  go_ret
  exact ⟨rfl, rfl⟩
set_option maxRecDepth 100000 in
set_option maxHeartbeats 2000000 in
theorem seenFind_any (g : Nat) (age room last link : Int) (fs : List Ent) (w : World) (h : Tab w g 98 172 age room last fs) (hl : fs.length ≤ 256) :
    Calls Try.prog 62 #[.pointer (some ⟨g, 0, none⟩), .int .i64 link] w fun e w' => e = .returned (.tuple #[.int .i64 (findL link fs).1, .bool (findL link fs).2]) ∧ Below w.heap.size w w' := by
  obtain ⟨A1, c1, hc1, hc2, hk, he⟩ := h
  have hln : Hid (fs.length ≤ 256) := hl
  have HBK := Lib.hid hk
  have HEN := Lib.hid he
  have m3 := hk.cell 3 rfl
  clear hk he hl
  have HR : Hid (findL link (fs.drop 0) = findL link fs) := rfl
  generalize findL link fs = R at HR ⊢
  go_enter Try.func62, Try.ntmps62
  go_wp2
  clear m3
  go_loopw [13] (fun i W => ∃ (k : Nat), k ≤ fs.length ∧ i = .int .i64 k ∧ Hid (findL link (fs.drop k) = R) ∧ Hid (Below w.heap.size w W)) (fun i _ => fs.length - (intOf i).toNat)
  case atStart => exact ⟨0, by omega, rfl, HR, Below.refl _ _⟩
  case round =>
    clear HR
    obtain ⟨k, hk, rfl, HR, HBL⟩ := hrel
    have hwsz : w.heap.size ≤ wr.heap.size := HBL.out.size
    have hl256 : fs.length ≤ 256 := hln.out
    by_cases hlt : k < fs.length
    · have HEw : Hid (Ents wr 172 A1 fs) := HEN.out.below HBL.out (Nat.le_refl _)
      obtain ⟨hh, o, rfl, _, _⟩ := HEw.out.addr (by omega)
      obtain ⟨l0, l1, l2⟩ := HEw.out.cells hlt
      have HST := Lib.hid (find_drop link fs k hlt)
      have hlt' : ((k : Int) < (fs.length : Int)) = True := eq_true (by omega)
      generalize fs.getD k default = x at *
      obtain ⟨xl, xp, xs⟩ := x
      simp only at l0 l1 l2
      have HST1 : Hid (findL link (fs.drop k) = if xl = link then (xp, true) else findL link (fs.drop (k + 1))) := HST.out
      clear HST
      go_upto_region 4 with (fail)
      have HB2 : Hid (Below w.heap.size w (wr.alloc (.cells #[.int .i64 xl, .int .i64 xp, .int .i64 xs] 172))) := HBL.out.alloc hwsz _
      have HQ : Hid (Blk (wr.alloc (.cells #[.int .i64 xl, .int .i64 xp, .int .i64 xs] 172)) wr.heap.size #[.int .i64 xl, .int .i64 xp, .int .i64 xs] 172) := Blk.new _ _ _
      clear l0 l1 l2 HBL HEw
      generalize wr.alloc (.cells #[.int .i64 xl, .int .i64 xp, .int .i64 xs] 172) = W2 at HB2 HQ ⊢
      generalize wr.heap.size = b at HQ ⊢
      have q0 := HQ.out.cell 0 rfl
      have q1 := HQ.out.cell 1 rfl
      clear HQ hwsz
      by_cases cc : xl = link
      · have HS3 := Lib.hid (HR.out.symm.trans (HST1.out.trans (if_pos cc)))
        have qc : (xl == link) = true := by simpa using cc
        clear HST1 cc
        go_wp2
        go_ret2
        exact ⟨by rw [HS3.out]; rfl, HB2.out⟩
      · have HS3 := Lib.hid ((HST1.out.trans (if_neg cc)).symm.trans HR.out)
        have qc : (xl == link) = false := by simpa using cc
        clear HST1 cc
        go_wp2
        go_roundw
        case rel => exact ⟨k + 1, by omega, by simp, HS3, HB2⟩
        case measure => simp [intOf]; try omega
    · obtain rfl : k = fs.length := by omega
      rw [List.drop_length] at HR
      go_wp2
      go_ret2
      exact ⟨by rw [← HR.out]; rfl, HBL.out⟩
set_option maxRecDepth 100000 in
set_option maxHeartbeats 2000000 in
theorem seenDrop_any (g : Nat) (age room last port : Int) (es : List Ent) (w : World) (h : Tab w g 98 172 age room last es) (hl : es.length ≤ 1000) :
    Calls Try.prog 64 #[.pointer (some ⟨g, 0, none⟩), .int .i64 port] w fun e w' => e = .returned (.int .i64 ((es.length : Int) - (dropL port es).length)) ∧ Tab w' g 98 172 age room last (dropL port es) ∧ Fr (· = g) w w' := by
  obtain ⟨A, c, hc1, hc2, hk, he⟩ := h
  have hg := hk.lt
  have m3 := hk.cell 3 rfl
  have HE := Lib.hid he
  have HK := Lib.hid hk
  have hgw := Lib.hid hg
  clear he hk hg
  go_enter Try.func64, Try.ntmps64
  go_wp2
  clear m3
  go_loopw [5, 14] (fun v i W => ∃ (k c9 : Nat) (A9 : Option Addr), k ≤ es.length ∧ i = .int .i64 k ∧ v = .slice A9 (dropL port (es.take k)).length c9 ∧ Hid (W.ownsRow w.heap.size 172 3 (.slice A9 (dropL port (es.take k)).length c9) (dropL port (es.take k)).length (cellsE (dropL port (es.take k)))) ∧ Hid (Below w.heap.size w W)) (fun _ i _ => es.length - (intOf i).toNat)
  case atStart => exact ⟨0, 0, none, by omega, rfl, rfl, own_nil _ _ _ _, Below.refl _ _⟩
  case round =>
    obtain ⟨k, c9, A9, hk, rfl, rfl, HO, HBL⟩ := hrel
    have hwsz : w.heap.size ≤ wr.heap.size := HBL.out.size
    by_cases hlt : k < es.length
    · have HEw : Hid (Ents wr 172 A es) := HE.out.below HBL.out (Nat.le_refl _)
      obtain ⟨h, o, rfl, _, _⟩ := HEw.out.addr (by omega)
      obtain ⟨l0, l1, l2⟩ := HEw.out.cells hlt
      have HST : Hid (dropL port (es.take (k + 1)) = if decide ((es.getD k default).p ≠ port) then dropL port (es.take k) ++ [es.getD k default] else dropL port (es.take k)) := filt_step _ hlt
      have HLN : Hid ((dropL port (es.take k)).length ≤ es.length) := filt_len es _ k
      have hlt' : ((k : Int) < (es.length : Int)) = True := eq_true (by omega)
      generalize es.getD k default = x at *
      obtain ⟨xl, xp, xs⟩ := x
      simp only at l0 l1 l2 HST
      go_upto_region 5 with (fail)
      have HB2 : Hid (Below w.heap.size w (wr.alloc (.cells #[.int .i64 xl, .int .i64 xp, .int .i64 xs] 172))) := HBL.out.alloc hwsz _
      have HO2 : Hid ((wr.alloc (.cells #[.int .i64 xl, .int .i64 xp, .int .i64 xs] 172)).ownsRow w.heap.size 172 3 (.slice A9 (dropL port (es.take k)).length c9) (dropL port (es.take k)).length (cellsE (dropL port (es.take k)))) := HO.out.alloc _
      have HQ : Hid (Blk (wr.alloc (.cells #[.int .i64 xl, .int .i64 xp, .int .i64 xs] 172)) wr.heap.size #[.int .i64 xl, .int .i64 xp, .int .i64 xs] 172) := Blk.new _ _ _
      clear l0 l1 l2 HO HBL HEw
      have hwsz2 : w.heap.size ≤ (wr.alloc (.cells #[.int .i64 xl, .int .i64 xp, .int .i64 xs] 172)).heap.size := by simp; omega
      generalize wr.alloc (.cells #[.int .i64 xl, .int .i64 xp, .int .i64 xs] 172) = W2 at HB2 HO2 HQ hwsz2 ⊢
      generalize wr.heap.size = b at HQ ⊢
      have q0 := HQ.out.cell 0 rfl
      have q1 := HQ.out.cell 1 rfl
      have q2 := HQ.out.cell 2 rfl
      clear HQ hwsz
      by_cases cc : xp ≠ port
      · have HS3 := Lib.hid (HST.out.trans (if_pos (decide_eq_true cc)))
        have qc : (xp != port) = true := by simpa using cc
        clear HST cc
        go_wp2_with (at_builtin; have hl8 : ((dropL port (es.take k)).length + 1) * 24 ≤ 140737488355328 := (by have := HLN.out; omega); refine print_append_cells w.heap.size rfl (.tmp 22) (.tmp 24) 96 172 _ 3 24 rfl Try.underlying96 infoS rfl (by omega) (by omega) _ _ _ [.int .i64 xl, .int .i64 xp, .int .i64 xs] rfl rfl rfl (by simp [Value.oneCell']) HO2.out HB2.out hwsz2 hl8 ?_; intro v1 w1 hown hB hgr hat; have HO5 := Lib.hid hown; have HB5 := Lib.hid hB; clear hown hB hgr hat)
        obtain ⟨A5, c5, rfl⟩ := own_slice HO5.out
        go_roundw
        case rel => exact ⟨k + 1, c5, A5, by omega, by simp, by rw [HS3.out, List.length_append]; rfl, by show World.ownsRow _ _ _ _ _ _ _; rw [HS3.out, List.length_append, cellsE_app]; exact HO5.out, HB5⟩
        case measure => simp [intOf]; try omega
      · have HS3 := Lib.hid (HST.out.trans (if_neg (by simp; omega)))
        have qc : (xp != port) = false := by simp; omega
        clear HST cc
        go_wp2
        go_roundw
        case rel => exact ⟨k + 1, c9, A9, by omega, by simp, by rw [HS3.out], by show World.ownsRow _ _ _ _ _ _ _; rw [HS3.out]; exact HO2.out, HB2⟩
        case measure => simp [intOf]; try omega
    · obtain rfl : k = es.length := by omega
      have HK9 : Hid (Blk wr g #[.int .i64 age, .int .i64 room, .int .i64 last, .slice A es.length c] 98) := blkB HBL.out hgw.out HK.out
      have m3 := HK9.out.cell 3 rfl
      have f3 := HK9.out.free 3
      have HLN := filt_len es (fun x => decide (x.p ≠ port)) es.length
      rw [List.take_length] at HO HLN ⊢
      have hl2 : (dropL port es).length ≤ es.length := HLN
      go_wp2
      go_ret
      exact ⟨by first | rfl | (congr 2; omega), (tab_put HK9.out (OwnAt.of_row HO.out) hgw.out).tab, fr_put (Fr.refl _ _) HBL.out 3 _⟩
set_option maxRecDepth 100000 in
set_option maxHeartbeats 2000000 in
theorem pass_any (g : Nat) (age room last now : Int) (es : List Ent) (w : World) (h : Tab w g 98 172 age room last es) (hl : es.length ≤ 1000) (hb : ∀ x ∈ es, 0 ≤ x.s ∧ x.s ≤ 1000000000) (n0 : 0 ≤ now) (n1 : now ≤ 1000000000) (a0 : 1 ≤ age) (a1 : age ≤ 1000000000) :
    Calls Try.prog 61 #[.pointer (some ⟨g, 0, none⟩), .int .i64 now] w fun e w' => e = .returned (.tuple #[]) ∧ Tab w' g 98 172 age room now (passL age now es) ∧ Fr (· = g) w w' := by
  obtain ⟨A, c, hc1, hc2, hk, he⟩ := h
  have m2 := hk.cell 2 rfl
  have f2 := hk.free 2
  have HB := Lib.hid hb
  have HE := Lib.hid he
  have HK := Lib.hid hk
  clear hb he hk
  have HL := Lib.hid hl
  go_enter Try.func61, Try.ntmps61
  go_upto_block 0 with (fail)
  have HK0 : Hid (Blk (w.setCell ⟨g, 2, none⟩ (.int .i64 now)) g #[.int .i64 age, .int .i64 room, .int .i64 now, .slice A es.length c] 98) := by have h := HK.out.set 2 (.int .i64 now); exact h
  have HF0 : Hid (Fr (· = g) w (w.setCell ⟨g, 2, none⟩ (.int .i64 now))) := (Fr.refl _ _).set1 2 _
  have HE0 : Hid (Ents (w.setCell ⟨g, 2, none⟩ (.int .i64 now)) 172 A es) := HE.out.fr HF0.out (fun k hk cells hb => by subst hk; exact absurd (hb.type HK.out) (by decide))
  clear m2 f2
  generalize w.setCell ⟨g, 2, none⟩ (.int .i64 now) = W0 at HK0 HF0 HE0 ⊢
  clear HE HK
  go_wp2
  go_loopg [] es.length (fun q W => ∃ (es2 : List Ent) (A2 : Option Addr) (c2 : Nat), es2.length ≤ q ∧ Hid (passL age now es2 = passL age now es) ∧ es2.length ≤ c2 ∧ c2 ≤ maxLen ∧ Hid (∀ x ∈ es2, 0 ≤ x.s ∧ x.s ≤ 1000000000) ∧ Hid (Blk W g #[.int .i64 age, .int .i64 room, .int .i64 now, .slice A2 es2.length c2] 98) ∧ Hid (Ents W 172 A2 es2) ∧ Hid (Fr (· = g) w W) ∧ es2.length ≤ 1000)
  case atStart => exact ⟨es, A, c, Nat.le_refl _, Eq.refl _, hc1, hc2, HB, HK0, HE0, HF0, HL.out⟩
  case round =>
    clear HK0 HF0 HE0 HB hc1 hc2 HL
    obtain ⟨es2, A2, c2, hq, HR, hc1, hc2, HB, HK, HE, HF, hl2⟩ := hrel
    have m0 := HK.out.cell 0 rfl
    have m3 := HK.out.cell 3 rfl
    have f3 := HK.out.free 3
    cases es2 with
    | nil =>
      clear hc1 hq hl2
      go_wp2
      go_quiet (fail)
      go_wp2
      go_end0
      have e : passL age now es = [] := HR.out.symm
      rw [e]
      exact ⟨rfl, ⟨A2, c2, Nat.zero_le _, hc2, HK.out, HE.out⟩, HF.out.drewN _⟩
    | cons x xs =>
      obtain ⟨h, o, rfl, _, cells, HCB⟩ := HE.out.addr (by simp)
      obtain ⟨l0, l1, l2⟩ := HE.out.cells (j := 0) (by simp)
      have hhg : h ≠ g := by
        rintro rfl
        exact absurd (HCB.type HK.out) (by decide)
      have hx := HB.out x (List.mem_cons_self ..)
      have hx0 := hx.1
      have hx1 := hx.2
      have e0 : (x :: xs).getD 0 default = x := rfl
      rw [e0] at l0 l1 l2
      simp only [Nat.zero_mul, Nat.add_zero] at l0 l1 l2
      have HXS : Hid ((x :: xs).length = xs.length + 1) := List.length_cons
      have hc3 : xs.length + 1 ≤ c2 := by rw [← HXS.out]; exact hc1
      have hl3 : xs.length + 1 ≤ 1000 := by rw [← HXS.out]; exact hl2
      have hq3 : xs.length + 1 ≤ gk := by rw [← HXS.out]; exact hq
      have HPS : Hid (passL age now (x :: xs) = if x.s + age ≤ now then passL age now xs else x :: xs) := rfl
      rw [HXS.out] at m3
      clear e0 hx hc1 hl2 hq HCB
      by_cases cc : x.s + age ≤ now
      · have HP2 : Hid (passL age now xs = passL age now es) := ((HPS.out.trans (if_pos cc)).symm).trans HR.out
        have HX2 : Hid (∀ y ∈ xs, 0 ≤ y.s ∧ y.s ≤ 1000000000) := fun y hy => HB.out y (List.mem_cons_of_mem _ hy)
        have hw1 : (1 : Int) ≤ ((xs.length + 1 : Nat) : Int) := by omega
        have hw3 : (1 : Int) ≤ (xs.length : Int) + 1 := by omega
        have hw2 : (0 : Int) < (xs.length : Int) + 1 := by omega
        have hw4 : 0 < xs.length + 1 := by omega
        by_cases hce : c2 = 1
        · subst hce
          have hx0l : xs.length = 0 := by omega
          obtain rfl : xs = [] := List.eq_nil_of_length_eq_zero hx0l
          simp only [List.length_nil, Nat.zero_add] at m3 hc3 hl3 hq3
          clear hx0l hw1 hw2 hw3 hw4 hc3
          go_wp2
          go_quiet (fail)
          go_wp2
          have HK2 : Hid (Blk ((wr.drewN nq).setCell ⟨g, 3, none⟩ (.slice (some ⟨h, o, none⟩) 0 0)) g #[.int .i64 age, .int .i64 room, .int .i64 now, (.slice (some ⟨h, o, none⟩) 0 0)] 98) := by have h8 := HK.out.set 3 (.slice (some ⟨h, o, none⟩) 0 0); exact h8
          have HF2 : Hid (Fr (· = g) w ((wr.drewN nq).setCell ⟨g, 3, none⟩ (.slice (some ⟨h, o, none⟩) 0 0))) := (HF.out.drewN _).set1 3 _
          have HE2 : Hid (Ents ((wr.drewN nq).setCell ⟨g, 3, none⟩ (.slice (some ⟨h, o, none⟩) 0 0)) 172 (some ⟨h, o, none⟩) []) := fun h0 => absurd h0 (by simp)
          go_roundg 0
          case rel => exact ⟨[], some ⟨h, o, none⟩, 0, Nat.le_refl _, HP2, Nat.le_refl _, Nat.zero_le _, HX2, HK2.out, HE2.out, HF2.out, Nat.zero_le _⟩
          case measure => omega
        · have hq1 : (c2 = 1) = False := eq_false hce
          clear hce
          go_wp2
          go_quiet (fail)
          go_wp2
          have HK2 : Hid (Blk ((wr.drewN nq).setCell ⟨g, 3, none⟩ (.slice (some ⟨h, o + 3, none⟩) xs.length (c2 - 1))) g #[.int .i64 age, .int .i64 room, .int .i64 now, (.slice (some ⟨h, o + 3, none⟩) xs.length (c2 - 1))] 98) := by have h8 := HK.out.set 3 (.slice (some ⟨h, o + 3, none⟩) xs.length (c2 - 1)); exact h8
          have HF2 : Hid (Fr (· = g) w ((wr.drewN nq).setCell ⟨g, 3, none⟩ (.slice (some ⟨h, o + 3, none⟩) xs.length (c2 - 1)))) := (HF.out.drewN _).set1 3 _
          have HE2 : Hid (Ents ((wr.drewN nq).setCell ⟨g, 3, none⟩ (.slice (some ⟨h, o + 3, none⟩) xs.length (c2 - 1))) 172 (some ⟨h, o + 3, none⟩) xs) := (HE.out.drop 1).fr (Fr.set1 ((Fr.refl (· = g) wr).drewN nq) 3 _) (fun k hk cells hb => by subst hk; exact absurd (hb.type HK.out) (by decide))
          go_roundg xs.length
          case rel => exact ⟨xs, some ⟨h, o + 3, none⟩, _, Nat.le_refl _, HP2, by omega, by omega, HX2, HK2.out, HE2.out, HF2.out, by omega⟩
          case measure => omega
      · have HP2 : Hid (x :: xs = passL age now es) := ((HPS.out.trans (if_neg cc)).symm).trans HR.out
        have hw2 : (0 : Int) < (xs.length : Int) + 1 := by omega
        have hw4 : 0 < xs.length + 1 := by omega
        go_wp2
        go_quiet (fail)
        go_wp2
        go_end0
        rw [← HP2.out]
        exact ⟨rfl, ⟨_, c2, hc3, hc2, HK.out, HE.out⟩, HF.out.drewN _⟩
end Go.Proofs.Ytfeddgeihpfjfaa
