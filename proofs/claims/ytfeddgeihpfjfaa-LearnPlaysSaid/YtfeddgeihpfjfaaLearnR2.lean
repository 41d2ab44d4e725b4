/- R.Seen: See. -/
import Derived.Test.YtfeddgeihpfjfaaLearnR1
import Derived.Test.YtfeddgeihpfjfaaFrameCk
set_option linter.unusedVariables false
set_option linter.unusedSimpArgs false
namespace Go.Proofs.Ytfeddgeihpfjfaa
open Go.RowKit Go.Proofs.YtfeddgeihpfjfaaW.PrintWords

theorem btw_true {n a b : Int} (h : a ≤ n) (h' : n ≤ b) : btw n a b = true := by unfold btw; simp; omega
theorem btw_false {n a b : Int} (h : n < a ∨ b < n) : btw n a b = false := by unfold btw; rcases h with h | h <;> simp <;> omega
theorem group_of {link : Int} (h0 : 0 ≤ link) : groupB link = (link / 1099511627776 % 2 == 1) := by unfold groupB; rw [decide_eq_true h0]; rfl
set_option maxHeartbeats 1000000 in
theorem seenSee_bad (g : Nat) (link port now : Int) (hlk : I64 link) (w : World) (h : badSee link port) :
    Calls Try.prog 59 #[.pointer (some ⟨g, 0, none⟩), .int .i64 link, .int .i64 port, .int .i64 now] w fun e w' => e = .returned (.int .i64 1) ∧ w = w' := by
  unfold badSee at h
  have H1 := Lib.hid (between_any link 0 281474976710655 w)
  have H2 := Lib.hid (isGroup_any link hlk w)
  have H3 := Lib.hid (between_any port 0 7 w)
  by_cases c1 : link < 0 ∨ 281474976710655 < link
  · rw [btw_false c1] at H1
    clear h c1
    go_enter Try.func59, Try.ntmps59
    go_wp2_with (go_at_call 99; ((with_reducible refine H1.out.mono ?_)); rintro e w1 ⟨rfl, rfl⟩)
    go_ret
    exact ⟨rfl, rfl⟩
  rw [btw_true (by omega) (by omega)] at H1
  by_cases c2 : link / 1099511627776 % 2 = 1
  · rw [group_of (by omega), c2] at H2
    have H2' : Hid (Calls Try.prog 108 #[.int .i64 link] w fun e w' => e = .returned (.bool true) ∧ w = w') := H2.out
    clear h c1 c2 H2
    go_enter Try.func59, Try.ntmps59
    go_wp2_with (first
      | (go_at_call 99; ((with_reducible refine H1.out.mono ?_)); rintro e w1 ⟨rfl, rfl⟩)
      | (go_at_call 108; ((with_reducible refine H2'.out.mono ?_)); rintro e w1 ⟨rfl, rfl⟩))
    go_ret
    exact ⟨rfl, rfl⟩
  have hq : (link / 1099511627776 % 2 == 1) = false := by simpa using c2
  rw [group_of (by omega), hq] at H2
  have c3 : port < 0 ∨ 7 < port := by omega
  rw [btw_false c3] at H3
  clear h c1 c2 c3 hq
  go_enter Try.func59, Try.ntmps59
  go_wp2_with (first
    | (go_at_call 99; ((with_reducible refine H1.out.mono ?_)); rintro e w1 ⟨rfl, rfl⟩)
    | (go_at_call 99; ((with_reducible refine H3.out.mono ?_)); rintro e w1 ⟨rfl, rfl⟩)
    | (go_at_call 108; ((with_reducible refine H2.out.mono ?_)); rintro e w1 ⟨rfl, rfl⟩))
  go_ret
  exact ⟨rfl, rfl⟩
theorem see_good {link port : Int} (hlk : I64 link) (hn : ¬ badSee link port) (w : World) : btw link 0 281474976710655 = true ∧ groupB link = false ∧ btw port 0 7 = true ∧ 0 ≤ link ∧ link ≤ 281474976710655 ∧ 0 ≤ port ∧ port ≤ 7 := by
  unfold badSee at hn
  refine ⟨btw_true (by omega) (by omega), ?_, btw_true (by omega) (by omega), by omega, by omega, by omega, by omega⟩
  rw [group_of (by omega), beq_eq_false_iff_ne]; omega
set_option maxHeartbeats 1000000 in
theorem seenSee_err (g : Nat) (age room last link port now : Int) (hlk : I64 link) (es : List Ent) (w : World) (h : Tab w g 98 172 age room last es) (hn : ¬ badSee link port) (ht : timeE last now ≠ 0) :
    Calls Try.prog 59 #[.pointer (some ⟨g, 0, none⟩), .int .i64 link, .int .i64 port, .int .i64 now] w fun e w' => e = .returned (.int .i64 (timeE last now)) ∧ w = w' := by
  have HA := Lib.hid (seenTime_any g age room last now es w h)
  clear h
  generalize timeE last now = t at HA ht ⊢
  have qt : (t != 0) = true := by simpa using ht
  obtain ⟨b1, b2, b3, _⟩ := see_good hlk hn w
  have H1 := Lib.hid (between_any link 0 281474976710655 w)
  have H2 := Lib.hid (isGroup_any link hlk w)
  have H3 := Lib.hid (between_any port 0 7 w)
  rw [b1] at H1
  rw [b2] at H2
  rw [b3] at H3
  clear hn ht b1 b2 b3
  go_enter Try.func59, Try.ntmps59
  go_wp2_with (first
    | (go_at_call 99; ((with_reducible refine H1.out.mono ?_)); rintro e w1 ⟨rfl, rfl⟩)
    | (go_at_call 99; ((with_reducible refine H3.out.mono ?_)); rintro e w1 ⟨rfl, rfl⟩)
    | (go_at_call 108; ((with_reducible refine H2.out.mono ?_)); rintro e w1 ⟨rfl, rfl⟩)
    | (go_at_call 58; ((with_reducible refine HA.out.mono ?_)); rintro e w1 ⟨rfl, rfl⟩))
  go_ret
  exact ⟨rfl, rfl⟩
attribute [local go_sem] min_ints max_ints
set_option maxRecDepth 100000 in
set_option maxHeartbeats 2000000 in
theorem seenSee_ok (g : Nat) (age room last link port now : Int) (hlk : I64 link) (es : List Ent) (w : World) (h : Tab w g 98 172 age room last es) (hk : TabOK age room last es) (hn : ¬ badSee link port) (ht : timeE last now = 0) :
    Calls Try.prog 59 #[.pointer (some ⟨g, 0, none⟩), .int .i64 link, .int .i64 port, .int .i64 now] w fun e w' => e = .returned (.int .i64 0) ∧ Tab w' g 98 172 age room now (putR room link port now (freshL age now es)) ∧ Fr (· = g) w w' := by
  have HA := Lib.hid (seenTime_any g age room last now es w h)
  rw [ht] at HA
  obtain ⟨t0, t1, t2⟩ := timeE_zero ht
  have HFR := Lib.hid (pass_any g age room last now es w h (by have := hk.len; have := hk.r1; omega) (fun x hx => by have := hk.bnd x hx; have := hk.t1; omega) t0 t1 hk.a0 hk.a1)
  rw [pass_fresh age now es hk.srt] at HFR
  have hln : Hid ((freshL age now es).length ≤ 256) := by
    have h1 := (fresh_sub age now es).length_le
    have h2 := hk.len
    have h3 := hk.r1
    show _ ≤ _
    omega
  have hr0 := hk.r0
  have hr1 := hk.r1
  obtain ⟨v0, hb0⟩ := h.blk
  have hgw : Hid (g < w.heap.size) := hb0.lt
  clear h hk ht t0 t1 t2 hb0
  generalize freshL age now es = fs at HFR hln ⊢
  obtain ⟨b1, b2, b3, l0', l1', p0, p1⟩ := see_good hlk hn w
  have H1 := Lib.hid (between_any link 0 281474976710655 w)
  have H2 := Lib.hid (isGroup_any link hlk w)
  have H3 := Lib.hid (between_any port 0 7 w)
  rw [b1] at H1
  rw [b2] at H2
  rw [b3] at H3
  have HPT : Hid (putR room link port now fs = (othL link fs ++ [(⟨link, port, now⟩ : Ent)]).drop (max 0 (((othL link fs).length : Int) + 1 - room)).toNat) := rfl
  generalize putR room link port now fs = R at HPT ⊢
  clear hn b1 b2 b3 hlk
  go_enter Try.func59, Try.ntmps59
  go_upto_block 0 with (first
    | (go_at_call 99; ((with_reducible refine H1.out.mono ?_)); rintro e w1 ⟨rfl, rfl⟩)
    | (go_at_call 99; ((with_reducible refine H3.out.mono ?_)); rintro e w1 ⟨rfl, rfl⟩)
    | (go_at_call 108; ((with_reducible refine H2.out.mono ?_)); rintro e w1 ⟨rfl, rfl⟩)
    | (go_at_call 58; ((with_reducible refine HA.out.mono ?_)); rintro e w1 ⟨rfl, rfl⟩)
    | (go_at_call 61; ((with_reducible refine HFR.out.mono ?_)); rintro e w1 ⟨rfl, ht1, hf1⟩; obtain ⟨A1, c1, hc1, hc2, hb1, he1⟩ := id ht1; have HT := Lib.hid ht1; have HBK := Lib.hid hb1; have HEN := Lib.hid he1; have HF := Lib.hid hf1; have m3 := hb1.cell 3 rfl; clear ht1 hf1 hb1 he1))
  clear m3
  have hgw1 : Hid (g < w1.heap.size) := HBK.out.lt
  have hl256 : fs.length ≤ 256 := hln.out
  go_wp2
  go_loopw [10, 39] (fun v i W => ∃ (k c9 : Nat) (A9 : Option Addr), k ≤ fs.length ∧ i = .int .i64 k ∧ v = .slice A9 (othL link (fs.take k)).length c9 ∧ Hid (W.ownsRow w1.heap.size 172 3 (.slice A9 (othL link (fs.take k)).length c9) (othL link (fs.take k)).length (cellsE (othL link (fs.take k)))) ∧ Hid (Below w1.heap.size w1 W)) (fun _ i _ => fs.length - (intOf i).toNat)
  case atStart => exact ⟨0, 0, none, by omega, rfl, rfl, own_nil _ _ _ _, Below.refl _ _⟩
  case round =>
    obtain ⟨k, c9, A9, hk, rfl, rfl, HO, HBL⟩ := hrel
    have hwsz : w1.heap.size ≤ wr.heap.size := HBL.out.size
    by_cases hlt : k < fs.length
    · have HEw : Hid (Ents wr 172 A1 fs) := HEN.out.below HBL.out (Nat.le_refl _)
      obtain ⟨h, o, rfl, _, _⟩ := HEw.out.addr (by omega)
      obtain ⟨l0, l1, l2⟩ := HEw.out.cells hlt
      have HST : Hid (othL link (fs.take (k + 1)) = if decide ((fs.getD k default).l ≠ link) then othL link (fs.take k) ++ [fs.getD k default] else othL link (fs.take k)) := filt_step _ hlt
      have HLN : Hid ((othL link (fs.take k)).length ≤ fs.length) := filt_len fs _ k
      have hlt' : ((k : Int) < (fs.length : Int)) = True := eq_true (by omega)
      generalize fs.getD k default = x at *
      obtain ⟨xl, xp, xs⟩ := x
      simp only at l0 l1 l2 HST
      go_upto_region 11 with (fail)
      have HB2 : Hid (Below w1.heap.size w1 (wr.alloc (.cells #[.int .i64 xl, .int .i64 xp, .int .i64 xs] 172))) := HBL.out.alloc hwsz _
      have HO2 : Hid ((wr.alloc (.cells #[.int .i64 xl, .int .i64 xp, .int .i64 xs] 172)).ownsRow w1.heap.size 172 3 (.slice A9 (othL link (fs.take k)).length c9) (othL link (fs.take k)).length (cellsE (othL link (fs.take k)))) := HO.out.alloc _
      have HQ : Hid (Blk (wr.alloc (.cells #[.int .i64 xl, .int .i64 xp, .int .i64 xs] 172)) wr.heap.size #[.int .i64 xl, .int .i64 xp, .int .i64 xs] 172) := Blk.new _ _ _
      clear l0 l1 l2 HO HBL HEw
      have hwsz2 : w1.heap.size ≤ (wr.alloc (.cells #[.int .i64 xl, .int .i64 xp, .int .i64 xs] 172)).heap.size := by simp; omega
      generalize wr.alloc (.cells #[.int .i64 xl, .int .i64 xp, .int .i64 xs] 172) = W2 at HB2 HO2 HQ hwsz2 ⊢
      generalize wr.heap.size = b at HQ ⊢
      have q0 := HQ.out.cell 0 rfl
      have q1 := HQ.out.cell 1 rfl
      have q2 := HQ.out.cell 2 rfl
      clear HQ hwsz
      by_cases cc : xl ≠ link
      · have HS3 := Lib.hid (HST.out.trans (if_pos (decide_eq_true cc)))
        have qc : (xl != link) = true := by simpa using cc
        clear HST cc
        go_wp2_with (at_builtin; have hl8 : ((othL link (fs.take k)).length + 1) * 24 ≤ 140737488355328 := (by have := HLN.out; omega); refine print_append_cells w1.heap.size rfl (.tmp 47) (.tmp 49) 96 172 _ 3 24 rfl Try.underlying96 infoS rfl (by omega) (by omega) _ _ _ [.int .i64 xl, .int .i64 xp, .int .i64 xs] rfl rfl rfl (by simp [Value.oneCell']) HO2.out HB2.out hwsz2 hl8 ?_; intro v1 w9 hown hB hgr hat; have HO5 := Lib.hid hown; have HB5 := Lib.hid hB; clear hown hB hgr hat)
        obtain ⟨A5, c5, rfl⟩ := own_slice HO5.out
        go_roundw
        case rel => exact ⟨k + 1, c5, A5, by omega, by simp, by rw [HS3.out, List.length_append]; rfl, by show World.ownsRow _ _ _ _ _ _ _; rw [HS3.out, List.length_append, cellsE_app]; exact HO5.out, HB5⟩
        case measure => simp [intOf]; try omega
      · have HS3 := Lib.hid (HST.out.trans (if_neg (by simp; omega)))
        have qc : (xl != link) = false := by simp; omega
        clear HST cc
        go_wp2
        go_roundw
        case rel => exact ⟨k + 1, c9, A9, by omega, by simp, by rw [HS3.out], by show World.ownsRow _ _ _ _ _ _ _; rw [HS3.out]; exact HO2.out, HB2⟩
        case measure => simp [intOf]; try omega
    · obtain rfl : k = fs.length := by omega
      have HK9 : Hid (Blk wr g #[.int .i64 age, .int .i64 room, .int .i64 now, .slice A1 fs.length c1] 98) := blkB HBL.out hgw1.out HBK.out
      rw [List.take_length] at HO ⊢
      have hol : (othL link fs).length ≤ 256 := by have := (oth_sub link fs).length_le; omega
      generalize othL link fs = ds at *
      have hl8 : (ds.length + 1) * 24 ≤ 140737488355328 := by omega
      go_upto_region 15 with (at_builtin; refine print_append_cells w1.heap.size rfl (.tmp 52) (.tmp 57) 96 172 _ 3 24 rfl Try.underlying96 infoS rfl (by omega) (by omega) _ _ _ [.int .i64 link, .int .i64 port, .int .i64 now] rfl rfl rfl (by simp [Value.oneCell']) HO.out HBL.out hwsz hl8 ?_; intro v1 w9 hown hB hgr hat; have HO5 := Lib.hid hown; have HB5 := Lib.hid hB; clear hown hB hgr hat)
      have HK5 : Hid (Blk w9 g #[.int .i64 age, .int .i64 room, .int .i64 now, .slice A1 fs.length c1] 98) := blkB HB5.out hgw1.out HBK.out
      have m1 := HK5.out.cell 1 rfl
      have m3 := HK5.out.cell 3 rfl
      have f3 := HK5.out.free 3
      obtain ⟨hh, c5, hv5, hh1, hh2⟩ := HO5.out.form (by omega)
      subst hv5
      have hc5 := (OwnAt.of_row HO5.out).caps
      have hm0 : 0 ≤ max 0 ((ds.length : Int) + 1 - room) := by omega
      have hm1 : max 0 ((ds.length : Int) + 1 - room) ≤ (ds.length : Int) + 1 := by omega
      have hm2 : ¬ (c5 : Int) = max 0 ((ds.length : Int) + 1 - room) := by omega
      have hm3 : ¬ c5 = (max 0 ((ds.length : Int) + 1 - room)).toNat := by omega
      have hc8 : c5 ≤ 9223372036854775807 := by have := hc5.2; unfold maxLen at this; omega
      clear hc5
      go_wp2
      go_ret
      have hq : (max 0 ((ds.length : Int) + 1 - room)).toNat ≤ ds.length + 1 := by omega
      generalize (max 0 ((ds.length : Int) + 1 - room)).toNat = q at HPT hq ⊢
      have hRl : R.length = ds.length + 1 - q := by rw [HPT.out, List.length_drop, List.length_append]; rfl
      have HO6 : OwnAt w9 w1.heap.size 172 3 (.slice (some ⟨hh, q * 3, none⟩) R.length (c5 - q)) R.length (cellsE R) := by
        have h := (OwnAt.of_row HO5.out).drop q hq
        have e : cellsE ds ++ [.int .i64 link, .int .i64 port, .int .i64 now] = cellsE (ds ++ [⟨link, port, now⟩]) := by rw [cellsE_app]; rfl
        rw [e, cellsE_drop, ← HPT.out, ← hRl, Nat.zero_add] at h
        exact h
      rw [← hRl]
      refine ⟨rfl, TabN.tab (B := w1.heap.size) ⟨some ⟨hh, q * 3, none⟩, c5 - q, ?_, HO6.setCell (HO6.ne (T := 98) HK5.out (by decide)) _⟩, (HF.out.trans (Fr.of_below HB5.out)).set1 3 _⟩
      have h8 := HK5.out.set 3 (.slice (some ⟨hh, q * 3, none⟩) R.length (c5 - q))
      exact h8
end Go.Proofs.Ytfeddgeihpfjfaa
