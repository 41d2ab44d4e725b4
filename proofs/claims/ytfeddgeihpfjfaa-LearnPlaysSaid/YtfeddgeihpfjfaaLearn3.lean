/- package learn: See. -/
import Derived.Test.YtfeddgeihpfjfaaLearn2
import Derived.Test.YtfeddgeihpfjfaaFrameCk
import Derived.Deep.RegionLaw
set_option linter.unusedVariables false
set_option linter.unusedSimpArgs false
namespace Go.Proofs.Ytfeddgeihpfjfaa
open Go.RowKit Go.Proofs.YtfeddgeihpfjfaaW.PrintWords

theorem learnSee_bad (g : Nat) (link port now : Int) (hlk : I64 link) (w : World) (h : badSee link port) :
    Calls Try.prog 57 #[.pointer (some ⟨g, 0, none⟩), .int .i64 link, .int .i64 port, .int .i64 now] w fun e w' => e = .returned (.int .i64 1) ∧ w = w' := by
  unfold badSee at h
  by_cases c1 : link < 0
  · clear h
    go_enter Try.func57, Try.ntmps57
    go_wp2
    go_ret
    exact ⟨rfl, rfl⟩
  obtain ⟨m, rfl⟩ := Int.eq_ofNat_of_zero_le (show 0 ≤ link by omega)
  by_cases c2 : 281474976710655 < (m : Int)
  · clear h c1
    go_enter Try.func57, Try.ntmps57
    go_wp2
    go_ret
    exact ⟨rfl, rfl⟩
  have c2' : (m : Int) ≤ 281474976710655 := by omega
  have e1 := and1_i64 ((m : Int) / 1099511627776) (by omega) (by omega)
  by_cases c3 : (m : Int) / 1099511627776 % 2 = 1
  · have q : ((m : Int) / 1099511627776 % 2 == 1) = true := by simpa using c3
    clear h c1 c2 c3
    go_enter Try.func57, Try.ntmps57
    go_wp2
    go_ret
    exact ⟨rfl, rfl⟩
  have q : ((m : Int) / 1099511627776 % 2 == 1) = false := by simpa using c3
  by_cases c4 : port < 0
  · clear h c1 c2 c3
    go_enter Try.func57, Try.ntmps57
    go_wp2
    go_ret
    exact ⟨rfl, rfl⟩
  have c4' : 0 ≤ port := by omega
  have c5 : 8 ≤ port := by omega
  clear h c1 c2 c3 c4
  go_enter Try.func57, Try.ntmps57
  go_wp2
  go_ret
  exact ⟨rfl, rfl⟩
theorem learnSee_err (g : Nat) (age room last link port now : Int) (es : List Ent) (w : World) (h : Tab w g 168 170 age room last es) (hn : ¬ badSee link port) (ht : timeE last now ≠ 0) :
    Calls Try.prog 57 #[.pointer (some ⟨g, 0, none⟩), .int .i64 link, .int .i64 port, .int .i64 now] w fun e w' => e = .returned (.int .i64 (timeE last now)) ∧ w = w' := by
  have HA := Lib.hid (atT g age room last now es w h)
  clear h
  generalize timeE last now = t at HA ht ⊢
  have qt : (t != 0) = true := by simpa using ht
  unfold badSee at hn
  obtain ⟨m, rfl⟩ := Int.eq_ofNat_of_zero_le (show 0 ≤ link by omega)
  have c2' : (m : Int) ≤ 281474976710655 := by omega
  have e1 := and1_i64 ((m : Int) / 1099511627776) (by omega) (by omega)
  have q : ((m : Int) / 1099511627776 % 2 == 1) = false := by rw [beq_eq_false_iff_ne]; omega
  have c4' : 0 ≤ port := by omega
  have c5 : port < 8 := by omega
  clear hn ht
  go_enter Try.func57, Try.ntmps57
  go_wp2_with (go_at_call 106; ((with_reducible refine HA.out.mono ?_)); rintro e w1 ⟨rfl, rfl⟩)
  go_ret
  exact ⟨rfl, rfl⟩

theorem del_step (link : Int) (es : List Ent) (k : Nat) (h : k < es.length) : delL link (es.drop k) = if (es.getD k default).l = link then es.drop (k + 1) else es.getD k default :: delL link (es.drop (k + 1)) := by
  rw [List.drop_eq_getElem_cons h, List.getD_eq_getElem?_getD, List.getElem?_eq_getElem h]; rfl
theorem take_getD (es : List Ent) (k : Nat) (h : k < es.length) : es.take (k + 1) = es.take k ++ [es.getD k default] := by
  rw [List.take_succ_eq_append_getElem h, List.getD_eq_getElem?_getD, List.getElem?_eq_getElem h]; rfl
set_option maxRecDepth 100000 in
set_option maxHeartbeats 2000000 in
theorem learnSee_ok (g : Nat) (age room last link port now : Int) (es : List Ent) (w : World) (h : Tab w g 168 170 age room last es) (hk : TabOK age room last es) (hn : ¬ badSee link port) (ht : timeE last now = 0) :
    Calls Try.prog 57 #[.pointer (some ⟨g, 0, none⟩), .int .i64 link, .int .i64 port, .int .i64 now] w fun e w' => e = .returned (.int .i64 0) ∧ Tab w' g 168 170 age room now (putP room link port now (freshL age now es)) ∧ Fr (· = g) w w' := by
  have HA := Lib.hid (atT g age room last now es w h)
  rw [ht] at HA
  obtain ⟨t0, t1, t2⟩ := timeE_zero ht
  have HFR := Lib.hid (fresh_any g age room last now es w h (by have := hk.len; have := hk.r1; omega) (fun x hx => by have := hk.bnd x hx; have := hk.t1; omega) t0 t1)
  have hln : Hid ((freshL age now es).length ≤ 256) := by
    have h1 := (fresh_sub age now es).length_le
    have h2 := hk.len
    have h3 := hk.r1
    show _ ≤ _
    omega
  have hrm : Hid (1 ≤ room ∧ room ≤ 256) := ⟨hk.r0, hk.r1⟩
  obtain ⟨v0, hb0⟩ := h.blk
  have hgw : Hid (g < w.heap.size) := hb0.lt
  clear h hk ht t0 t1 t2 hb0
  generalize freshL age now es = fs at HFR hln ⊢
  unfold badSee at hn
  obtain ⟨m, rfl⟩ := Int.eq_ofNat_of_zero_le (show 0 ≤ link by omega)
  have c2' : (m : Int) ≤ 281474976710655 := by omega
  have e1 := and1_i64 ((m : Int) / 1099511627776) (by omega) (by omega)
  have q : ((m : Int) / 1099511627776 % 2 == 1) = false := by rw [beq_eq_false_iff_ne]; omega
  have c4' : 0 ≤ port := by omega
  have c5 : port < 8 := by omega
  clear hn
  have HPT : Hid (putP room m port now fs = (if ((delL m fs).length : Int) = room then (delL m fs).drop 1 else delL m fs) ++ [⟨(m : Int), port, now⟩]) := rfl
  generalize putP room m port now fs = R at HPT ⊢
  go_enter Try.func57, Try.ntmps57
  go_upto_block 0 with (first
    | (go_at_call 106; ((with_reducible refine HA.out.mono ?_)); rintro e w1 ⟨rfl, rfl⟩)
    | (go_at_call 107; ((with_reducible refine HFR.out.mono ?_)); rintro e w1 ⟨rfl, ht1, hf1⟩; obtain ⟨A1, c1, hb1, ho1⟩ := id ht1; have HT := Lib.hid ht1; have HBK := Lib.hid hb1; have HOW := Lib.hid ho1; have HEN := Lib.hid (Ents.of_own ho1); have HF := Lib.hid hf1; have m3 := hb1.cell 3 rfl; clear ht1 hf1 hb1 ho1))
  clear m3 e1 q
  go_cut [] (fun W => ∃ A c, Hid (Blk W g #[.int .i64 age, .int .i64 room, .int .i64 now, .slice A (delL m fs).length c] 168) ∧ Hid (OwnAt W w.heap.size 170 3 (.slice A (delL m fs).length c) (delL m fs).length (cellsE (delL m fs))) ∧ Hid (Fr (· = g) w W))
  case first =>
    go_wp2
    go_loopw [46] (fun i W => ∃ (k : Nat), k ≤ fs.length ∧ i = .int .i64 k ∧ Hid (delL m fs = fs.take k ++ delL m (fs.drop k)) ∧ Hid (Below w1.heap.size w1 W)) (fun i _ => fs.length - (intOf i).toNat)
    case atStart => exact ⟨0, by omega, rfl, rfl, Below.refl _ _⟩
    case round =>
      obtain ⟨k, hk, rfl, HD, HBL⟩ := hrel
      have hwsz : w1.heap.size ≤ wr.heap.size := HBL.out.size
      have hl256 : fs.length ≤ 256 := hln.out
      have hw1 : Hid (w.heap.size ≤ w1.heap.size) := HF.out.size
      have HFW : Hid (Fr (· = g) w wr) := HF.out.trans (Fr.of_below HBL.out)
      have HKW : Hid (Blk wr g #[.int .i64 age, .int .i64 room, .int .i64 now, .slice A1 fs.length c1] 168) := blk_below HBL.out HBK.out
      have HOW2 : Hid (OwnAt wr w.heap.size 170 3 (.slice A1 fs.length c1) fs.length (cellsE fs)) := HOW.out.below HBL.out
      by_cases hlt : k < fs.length
      · have HEw : Hid (Ents wr 170 A1 fs) := HEN.out.below HBL.out (Nat.le_refl _)
        obtain ⟨hh, o, rfl, _, _⟩ := HEw.out.addr (by omega)
        obtain ⟨l0, l1, l2⟩ := HEw.out.cells hlt
        have HST := Lib.hid (del_step m fs k hlt)
        have HTK := Lib.hid (take_getD fs k hlt)
        have hlt' : ((k : Int) < (fs.length : Int)) = True := eq_true (by omega)
        generalize fs.getD k default = x at *
        obtain ⟨xl, xp, xs⟩ := x
        simp only at l0 l1 l2
        have HST1 : Hid (delL m (fs.drop k) = if xl = m then fs.drop (k + 1) else ⟨xl, xp, xs⟩ :: delL m (fs.drop (k + 1))) := HST.out
        clear HST
        go_upto_region 10 with (fail)
        have HB2 : Hid (Below w1.heap.size w1 (wr.alloc (.cells #[.int .i64 xl, .int .i64 xp, .int .i64 xs] 170))) := HBL.out.alloc hwsz _
        have HF2 : Hid (Fr (· = g) w (wr.alloc (.cells #[.int .i64 xl, .int .i64 xp, .int .i64 xs] 170))) := HFW.out.alloc _
        have HK2 : Hid (Blk (wr.alloc (.cells #[.int .i64 xl, .int .i64 xp, .int .i64 xs] 170)) g #[.int .i64 age, .int .i64 room, .int .i64 now, .slice (some ⟨hh, o, none⟩) fs.length c1] 168) := HKW.out.alloc _
        have HO2 : Hid (OwnAt (wr.alloc (.cells #[.int .i64 xl, .int .i64 xp, .int .i64 xs] 170)) w.heap.size 170 3 (.slice (some ⟨hh, o, none⟩) fs.length c1) fs.length (cellsE fs)) := HOW2.out.alloc _
        have HQ : Hid (Blk (wr.alloc (.cells #[.int .i64 xl, .int .i64 xp, .int .i64 xs] 170)) wr.heap.size #[.int .i64 xl, .int .i64 xp, .int .i64 xs] 170) := Blk.new _ _ _
        have hwB : w.heap.size ≤ (wr.alloc (.cells #[.int .i64 xl, .int .i64 xp, .int .i64 xs] 170)).heap.size := by have := hw1.out; simp; omega
        clear l0 l1 l2 HBL HEw HFW HKW HOW2
        generalize wr.alloc (.cells #[.int .i64 xl, .int .i64 xp, .int .i64 xs] 170) = W2 at HB2 HQ HF2 HK2 HO2 hwB ⊢
        generalize wr.heap.size = b at HQ ⊢
        have q0 := HQ.out.cell 0 rfl
        clear HQ hwsz
        by_cases cc : xl = m
        · have HD2 : Hid (delL m fs = fs.take k ++ fs.drop (k + 1)) := HD.out.trans (by rw [HST1.out, if_pos cc])
          have qc : (xl == (m : Int)) = true := by simpa using cc
          clear HST1 cc HD HTK
          have m3 := HK2.out.cell 3 rfl
          have f3 := HK2.out.free 3
          obtain ⟨hc0, hc9⟩ := HO2.out.caps
          have hc8 : c1 ≤ 9223372036854775807 := by unfold maxLen at hc9; omega
          have HTA : Hid (OwnAt W2 w.heap.size 170 3 (.slice (some ⟨hh, o, none⟩) k k) k (cellsE (fs.take k))) := by
            show OwnAt _ _ _ _ _ _ _
            rw [← cellsE_take]; exact HO2.out.take k hk
          have HSRC : Hid (∀ (W : World) (ad : Addr) (cc : Nat), W.heap = W2.heap → (k + 1 < fs.length → ad = ⟨hh, o + (k + 1) * 3, none⟩) → Src Try.prog 3 166 (.slice (some ad) (fs.length - (k + 1)) cc) (fs.length - (k + 1)) (cellsE (fs.drop (k + 1))) W) := by
            intro W ad cc hW had
            refine Src.ofSlice W Try.underlying166 ad _ _ _ (by rw [cellsE_len, List.length_drop]) ?_ (cellsE_one _)
            intro j u hu
            have hlt2 : k + 1 < fs.length := by
              have := (List.getElem?_eq_some_iff.1 hu).1
              rw [cellsE_len, List.length_drop] at this; omega
            rw [had hlt2]
            have hd := (HO2.out.drop (k + 1) hlt).cells j u (by rw [cellsE_drop]; exact hu)
            have : W.cell? ((⟨hh, o + (k + 1) * 3, none⟩ : Addr).add j) = W2.cell? ((⟨hh, o + (k + 1) * 3, none⟩ : Addr).add j) := by simp [World.cell?, hW]
            rw [this]; exact hd
          clear hc9
          have hn1 : ((k : Int) + 1 ≤ fs.length) := by omega
          have hn2 : ((k : Int) ≤ c1) := by omega
          go_wp2
          have hwr : IntKind.i64.wrap ((k : Int) + 1) = (k : Int) + 1 := by rw [IntKind.wrap_i64]; omega
          have hwn : ((k : Int) + 1).toNat = k + 1 := by omega
          have hw0 : (0 : Int) ≤ (k : Int) + 1 := by omega
          have hm1 : k + (fs.length - (k + 1)) ≤ maxLen := by unfold maxLen; omega
          have hm2 : (k + (fs.length - (k + 1))) * 24 ≤ 140737488355328 := by omega
          have hhg : hh ≠ g := by
            rintro rfl
            obtain ⟨_, hty⟩ := HO2.out.typed
            exact absurd (hty.type HK2.out) (by decide)
          have hhw := Lib.hid (HO2.out.base_le hh rfl)
          by_cases hce : c1 = k + 1
          · subst hce
            have hn3 : ((k : Int) ≤ (k : Int) + 1) := by omega
            have hz : fs.length - (k + 1) = 0 := by omega
            rw [hz] at HSRC hm1 hm2
            go_region_law (refine step_append_at rfl (.tmp 62) (.tmp 69) 166 166 170 _ w.heap.size 3 24 rfl Try.underlying166 infoE rfl (.slice (some ⟨hh, o, none⟩) k k) (.slice (some ⟨hh, o, none⟩) 0 0) k 0 _ _ (by simp [Act.eval, Act.put]) (by simp [Act.eval, Act.put]) HTA.out.drew (HSRC.out _ _ _ rfl (fun h => by omega)) hm1 hm2 hwB ?_; intro v1 w9 hown hgr; obtain ⟨A9, c9, hv9, _, _⟩ := hown.slice; subst hv9; have HK9 := Lib.hid (blk_grown (HK2.out.drewN 1) hgr (by simp [Value.ownBlock, hhg])); have m9 := HK9.out.cell 3 rfl; have f9 := HK9.out.free 3; have HO5 := Lib.hid hown; have HG5 := Lib.hid hgr; clear hown hgr)
            all_goals
              have e9 : k + 0 = (delL m fs).length := by
                rw [HD2.out, List.length_append, List.length_take, List.length_drop]; omega
              have h9 : OwnAt w9 w.heap.size 170 3 (.slice A9 (delL m fs).length c9) (delL m fs).length (cellsE (delL m fs)) := by
                have h := HO5.out
                rw [← cellsE_app, ← HD2.out, e9] at h
                exact h
              go_wp2
              go_meet
              first | rw [e9] | rw [show k = (delL m fs).length from e9]
              refine ⟨A9, c9, ?_, ?_, ?_⟩
              · have h8 := (HK9.out.set 3 (.slice A9 (delL m fs).length c9)); exact h8
              · exact h9.setCell (h9.ne HK9.out (by decide)) _
              · exact (fr_grown (HF2.out.drewN 1) HG5.out (fun k' hk' => (Option.some.inj hk' : hh = k') ▸ hhw.out)).set1 3 _

          · have hq1 : (c1 = k + 1) = False := eq_false hce
            go_region_law (refine step_append_at rfl (.tmp 62) (.tmp 69) 166 166 170 _ w.heap.size 3 24 rfl Try.underlying166 infoE rfl (.slice (some ⟨hh, o, none⟩) k k) (.slice (some ⟨hh, o + (k + 1) * 3, none⟩) (fs.length - (k + 1)) (c1 - (k + 1))) k (fs.length - (k + 1)) _ _ (by simp [Act.eval, Act.put]) (by simp [Act.eval, Act.put]) HTA.out.drew (HSRC.out _ _ _ rfl (fun _ => rfl)) hm1 hm2 hwB ?_; intro v1 w9 hown hgr; obtain ⟨A9, c9, hv9, _, _⟩ := hown.slice; subst hv9; have HK9 := Lib.hid (blk_grown (HK2.out.drewN 1) hgr (by simp [Value.ownBlock, hhg])); have m9 := HK9.out.cell 3 rfl; have f9 := HK9.out.free 3; have HO5 := Lib.hid hown; have HG5 := Lib.hid hgr; clear hown hgr)
            all_goals
              have e9 : k + (fs.length - (k + 1)) = (delL m fs).length := by
                rw [HD2.out, List.length_append, List.length_take, List.length_drop]; omega
              have h9 : OwnAt w9 w.heap.size 170 3 (.slice A9 (delL m fs).length c9) (delL m fs).length (cellsE (delL m fs)) := by
                have h := HO5.out
                rw [← cellsE_app, ← HD2.out, e9] at h
                exact h
              go_wp2
              go_meet
              first | rw [e9] | rw [show k = (delL m fs).length from e9]
              refine ⟨A9, c9, ?_, ?_, ?_⟩
              · have h8 := (HK9.out.set 3 (.slice A9 (delL m fs).length c9)); exact h8
              · exact h9.setCell (h9.ne HK9.out (by decide)) _
              · exact (fr_grown (HF2.out.drewN 1) HG5.out (fun k' hk' => (Option.some.inj hk' : hh = k') ▸ hhw.out)).set1 3 _
        · have HD2 : Hid (delL m fs = fs.take (k + 1) ++ delL m (fs.drop (k + 1))) := HD.out.trans (by rw [HST1.out, if_neg cc, HTK.out, List.append_assoc]; rfl)
          have qc : (xl == (m : Int)) = false := by simpa using cc
          clear HST1 cc HD
          go_wp2
          go_roundw
          case rel => exact ⟨k + 1, by omega, by simp, HD2, HB2⟩
          case measure => simp [intOf]; try omega
      · obtain rfl : k = fs.length := by omega
        have HD2 : Hid (delL m fs = fs) := HD.out.trans (by rw [List.drop_length, List.take_length]; exact List.append_nil _)
        go_wp2
        go_meet
        exact ⟨A1, c1, by rw [HD2.out]; exact HKW.out, by rw [HD2.out]; exact HOW2.out, HFW⟩
  case rest =>
    obtain ⟨A, c, HK, HO, HFW⟩ := hcut
    have hdl : (delL m fs).length ≤ 256 := by
      have h1 : ∀ xs : List Ent, (delL m xs).length ≤ xs.length := by
        intro xs
        induction xs with
        | nil => exact Nat.le_refl _
        | cons x xs ih => unfold delL; split <;> simp <;> omega
      have h2 := h1 fs
      have h3 := hln.out
      omega
    generalize delL m fs = ds at *
    obtain ⟨hc0, hc9⟩ := HO.out.caps
    have hc8 : c ≤ 9223372036854775807 := by unfold maxLen at hc9; omega
    have hr0 := hrm.out.1
    have m1 := HK.out.cell 1 rfl
    have m3 := HK.out.cell 3 rfl
    have f3 := HK.out.free 3
    by_cases cl : (ds.length : Int) = room
    · have hd0 : 0 < ds.length := by omega
      have HR2 : Hid (R = ds.drop 1 ++ [⟨(m : Int), port, now⟩]) := HPT.out.trans (by rw [if_pos cl])
      have qc : ((ds.length : Int) == room) = true := by simpa using cl
      have hd1 : (1 : Int) ≤ (ds.length : Int) := by omega
      obtain ⟨hh, o, hA⟩ : ∃ hh o, A = some ⟨hh, o, none⟩ := by
        obtain ⟨hh, o, hA, _⟩ := (Ents.of_own HO.out).addr hd0
        exact ⟨hh, o, hA⟩
      subst hA
      clear cl HPT
      by_cases hc1 : c = 1
      · have hq1 : (c = 1) = True := eq_true hc1
        have hdn : Hid (ds.drop 1 = []) := List.drop_of_length_le (by omega)
        subst hc1
        clear hq1
        go_wp2
        go_quiet (fail)
        go_upto_region 15 with (fail)
        have HK2 : Hid (Blk ((wc.drewN nq).setCell ⟨g, 3, none⟩ (.slice (some ⟨hh, o, none⟩) 0 0)) g #[.int .i64 age, .int .i64 room, .int .i64 now, (.slice (some ⟨hh, o, none⟩) 0 0)] 168) := by have h8 := HK.out.set 3 (.slice (some ⟨hh, o, none⟩) 0 0); exact h8
        have HO2 : Hid (OwnAt ((wc.drewN nq).setCell ⟨g, 3, none⟩ (.slice (some ⟨hh, o, none⟩) 0 0)) w.heap.size 170 3 (.slice (some ⟨hh, o, none⟩) 0 0) 0 (cellsE [])) := by
          have h8 := HO.out.take 0 (Nat.zero_le _)
          exact h8.setCell (h8.ne HK.out (by decide)) _
        have HF2 : Hid (Fr (· = g) w ((wc.drewN nq).setCell ⟨g, 3, none⟩ (.slice (some ⟨hh, o, none⟩) 0 0))) := (HFW.out.drewN _).set1 3 _
        clear m1 m3 f3 HK HO HFW
        generalize (wc.drewN nq).setCell ⟨g, 3, none⟩ (.slice (some ⟨hh, o, none⟩) 0 0) = W2 at HK2 HO2 HF2 ⊢
        obtain ⟨A2, hA2⟩ : ∃ A2 : Option Addr, A2 = some ⟨hh, o, none⟩ := ⟨_, rfl⟩
        rw [← hA2] at HK2 HO2 ⊢
        clear hA2
        obtain ⟨es2, hes⟩ : ∃ es2, es2 = ds.drop 1 := ⟨_, rfl⟩
        have hel : 0 = es2.length := by rw [hes, hdn.out]; rfl
        obtain ⟨c2, hc2⟩ : ∃ c2 : Nat, c2 = 0 := ⟨_, rfl⟩
        have hes3 : [] = es2 := by rw [hes, hdn.out]
        have HK3 : Hid (Blk W2 g #[.int .i64 age, .int .i64 room, .int .i64 now, (.slice A2 es2.length c2)] 168) := by rw [← hel, hc2]; exact HK2.out
        have HO3 : Hid (OwnAt W2 w.heap.size 170 3 (.slice A2 es2.length c2) es2.length (cellsE es2)) := by rw [← hel, hc2, ← hes3]; exact HO2.out
        clear HK2 HO2
        have HK2 := HK3
        have HO2 := HO3
        clear HK3 HO3
        rw [← hes] at HR2
        have hdl2 : es2.length ≤ 256 := by omega
        clear hes hel hc2 hes3 hdn
        have HNE := Lib.hid (HO2.out.ne HK2.out (by decide))
        have hwq : w.heap.size ≤ W2.heap.size := HF2.out.size
        have m4 := HK2.out.cell 3 rfl
        have hm1 : es2.length + 1 ≤ maxLen := by unfold maxLen; omega
        have hm2 : (es2.length + 1) * 24 ≤ 140737488355328 := by omega
        have hwq2 : w.heap.size ≤ (W2.alloc (.cells #[.int .i64 (m : Int), .int .i64 port, .int .i64 now] 170)).heap.size := by rw [World.size_alloc]; omega
        go_wp2_with (at_builtin; refine wpList_append_at rfl (.tmp 96) (.tmp 101) 166 166 170 _ w.heap.size 3 24 rfl Try.underlying166 infoE rfl (.slice A2 es2.length c2) (.slice (some ⟨W2.heap.size, 0, none⟩) 1 1) es2.length 1 (cellsE es2) (cellsE [⟨(m : Int), port, now⟩]) rfl rfl (HO2.out.alloc _) (src_new W2 Try.underlying166 ⟨(m : Int), port, now⟩) hm1 hm2 hwq2 ?_; intro v1 w9 hown hgr; obtain ⟨A9, c9, hv9, _, _⟩ := hown.slice; subst hv9; have HK9 := Lib.hid (blk_grown (HK2.out.alloc _) hgr HNE.out); have m9 := HK9.out.cell 3 rfl; have f9 := HK9.out.free 3; have HO5 := Lib.hid hown; have HG5 := Lib.hid hgr; clear hown hgr)
        go_ret
        have e9 : es2.length + 1 = R.length := by rw [HR2.out, List.length_append]; rfl
        have h9 : OwnAt w9 w.heap.size 170 3 (.slice A9 R.length c9) R.length (cellsE R) := by
          have h := HO5.out
          rw [← cellsE_app, ← HR2.out, e9] at h
          exact h
        rw [e9]
        refine ⟨rfl, TabN.tab (B := w.heap.size) ⟨A9, c9, ?_, h9.setCell (h9.ne (T := 168) HK9.out (by decide)) _⟩, (fr_grown (HF2.out.alloc _) HG5.out (fun k' hk' => HO2.out.base_le k' hk')).set1 3 _⟩
        have h8 := (HK9.out.set 3 (.slice A9 R.length c9)); exact h8
      · have hq1 : (c = 1) = False := eq_false hc1
        clear hc1
        go_wp2
        go_quiet (fail)
        go_upto_region 15 with (fail)
        have HK2 : Hid (Blk ((wc.drewN nq).setCell ⟨g, 3, none⟩ (.slice (some ⟨hh, o + 3, none⟩) (ds.length - 1) (c - 1))) g #[.int .i64 age, .int .i64 room, .int .i64 now, (.slice (some ⟨hh, o + 3, none⟩) (ds.length - 1) (c - 1))] 168) := by have h8 := HK.out.set 3 (.slice (some ⟨hh, o + 3, none⟩) (ds.length - 1) (c - 1)); exact h8
        have HO2 : Hid (OwnAt ((wc.drewN nq).setCell ⟨g, 3, none⟩ (.slice (some ⟨hh, o + 3, none⟩) (ds.length - 1) (c - 1))) w.heap.size 170 3 (.slice (some ⟨hh, o + 3, none⟩) (ds.length - 1) (c - 1)) (ds.length - 1) (cellsE (ds.drop 1))) := by
          have h8 := HO.out.drop 1 (by omega)
          rw [cellsE_drop ds 1] at h8
          exact h8.setCell (h8.ne HK.out (by decide)) _
        have HF2 : Hid (Fr (· = g) w ((wc.drewN nq).setCell ⟨g, 3, none⟩ (.slice (some ⟨hh, o + 3, none⟩) (ds.length - 1) (c - 1)))) := (HFW.out.drewN _).set1 3 _
        clear m1 m3 f3 HK HO HFW
        generalize (wc.drewN nq).setCell ⟨g, 3, none⟩ (.slice (some ⟨hh, o + 3, none⟩) (ds.length - 1) (c - 1)) = W2 at HK2 HO2 HF2 ⊢
        obtain ⟨A2, hA2⟩ : ∃ A2 : Option Addr, A2 = some ⟨hh, o + 3, none⟩ := ⟨_, rfl⟩
        obtain ⟨c2, hc2⟩ : ∃ c2, c2 = c - 1 := ⟨_, rfl⟩
        rw [← hA2, ← hc2] at HK2 HO2 ⊢
        clear hA2 hc2
        obtain ⟨es2, hes⟩ : ∃ es2, es2 = ds.drop 1 := ⟨_, rfl⟩
        have hel : ds.length - 1 = es2.length := by rw [hes, List.length_drop]
        rw [hel] at HK2 HO2 ⊢
        rw [← hes] at HO2 HR2
        have hdl2 : es2.length ≤ 256 := by omega
        clear hes hel
        have HNE := Lib.hid (HO2.out.ne HK2.out (by decide))
        have hwq : w.heap.size ≤ W2.heap.size := HF2.out.size
        have m4 := HK2.out.cell 3 rfl
        have hm1 : es2.length + 1 ≤ maxLen := by unfold maxLen; omega
        have hm2 : (es2.length + 1) * 24 ≤ 140737488355328 := by omega
        have hwq2 : w.heap.size ≤ (W2.alloc (.cells #[.int .i64 (m : Int), .int .i64 port, .int .i64 now] 170)).heap.size := by rw [World.size_alloc]; omega
        go_wp2_with (at_builtin; refine wpList_append_at rfl (.tmp 96) (.tmp 101) 166 166 170 _ w.heap.size 3 24 rfl Try.underlying166 infoE rfl (.slice A2 es2.length c2) (.slice (some ⟨W2.heap.size, 0, none⟩) 1 1) es2.length 1 (cellsE es2) (cellsE [⟨(m : Int), port, now⟩]) rfl rfl (HO2.out.alloc _) (src_new W2 Try.underlying166 ⟨(m : Int), port, now⟩) hm1 hm2 hwq2 ?_; intro v1 w9 hown hgr; obtain ⟨A9, c9, hv9, _, _⟩ := hown.slice; subst hv9; have HK9 := Lib.hid (blk_grown (HK2.out.alloc _) hgr HNE.out); have m9 := HK9.out.cell 3 rfl; have f9 := HK9.out.free 3; have HO5 := Lib.hid hown; have HG5 := Lib.hid hgr; clear hown hgr)
        go_ret
        have e9 : es2.length + 1 = R.length := by rw [HR2.out, List.length_append]; rfl
        have h9 : OwnAt w9 w.heap.size 170 3 (.slice A9 R.length c9) R.length (cellsE R) := by
          have h := HO5.out
          rw [← cellsE_app, ← HR2.out, e9] at h
          exact h
        rw [e9]
        refine ⟨rfl, TabN.tab (B := w.heap.size) ⟨A9, c9, ?_, h9.setCell (h9.ne (T := 168) HK9.out (by decide)) _⟩, (fr_grown (HF2.out.alloc _) HG5.out (fun k' hk' => HO2.out.base_le k' hk')).set1 3 _⟩
        have h8 := (HK9.out.set 3 (.slice A9 R.length c9)); exact h8
    · have HR2 : Hid (R = ds ++ [⟨(m : Int), port, now⟩]) := HPT.out.trans (by rw [if_neg cl])
      have qc : ((ds.length : Int) == room) = false := by simpa using cl
      clear cl HPT
      go_wp2
      go_quiet (fail)
      go_upto_region 15 with (fail)
      have HK2 : Hid (Blk (wc.drewN nq) g #[.int .i64 age, .int .i64 room, .int .i64 now, .slice A ds.length c] 168) := HK.out
      have HO2 : Hid (OwnAt (wc.drewN nq) w.heap.size 170 3 (.slice A ds.length c) ds.length (cellsE ds)) := HO.out
      have HF2 : Hid (Fr (· = g) w (wc.drewN nq)) := HFW.out.drewN _
      clear m1 m3 f3 HK HO HFW
      generalize wc.drewN nq = W2 at HK2 HO2 HF2 ⊢
      obtain ⟨es2, rfl⟩ : ∃ es2, es2 = ds := ⟨_, rfl⟩
      obtain ⟨A2, rfl⟩ : ∃ A2, A2 = A := ⟨_, rfl⟩
      obtain ⟨c2, rfl⟩ : ∃ c2, c2 = c := ⟨_, rfl⟩
      have HNE := Lib.hid (HO2.out.ne HK2.out (by decide))
      have hwq : w.heap.size ≤ W2.heap.size := HF2.out.size
      have m4 := HK2.out.cell 3 rfl
      have hm1 : es2.length + 1 ≤ maxLen := by unfold maxLen; omega
      have hm2 : (es2.length + 1) * 24 ≤ 140737488355328 := by omega
      have hwq2 : w.heap.size ≤ (W2.alloc (.cells #[.int .i64 (m : Int), .int .i64 port, .int .i64 now] 170)).heap.size := by rw [World.size_alloc]; omega
      go_wp2_with (at_builtin; refine wpList_append_at rfl (.tmp 96) (.tmp 101) 166 166 170 _ w.heap.size 3 24 rfl Try.underlying166 infoE rfl (.slice A2 es2.length c2) (.slice (some ⟨W2.heap.size, 0, none⟩) 1 1) es2.length 1 (cellsE es2) (cellsE [⟨(m : Int), port, now⟩]) rfl rfl (HO2.out.alloc _) (src_new W2 Try.underlying166 ⟨(m : Int), port, now⟩) hm1 hm2 hwq2 ?_; intro v1 w9 hown hgr; obtain ⟨A9, c9, hv9, _, _⟩ := hown.slice; subst hv9; have HK9 := Lib.hid (blk_grown (HK2.out.alloc _) hgr HNE.out); have m9 := HK9.out.cell 3 rfl; have f9 := HK9.out.free 3; have HO5 := Lib.hid hown; have HG5 := Lib.hid hgr; clear hown hgr)
      go_ret
      have e9 : es2.length + 1 = R.length := by rw [HR2.out, List.length_append]; rfl
      have h9 : OwnAt w9 w.heap.size 170 3 (.slice A9 R.length c9) R.length (cellsE R) := by
        have h := HO5.out
        rw [← cellsE_app, ← HR2.out, e9] at h
        exact h
      rw [e9]
      refine ⟨rfl, TabN.tab (B := w.heap.size) ⟨A9, c9, ?_, h9.setCell (h9.ne (T := 168) HK9.out (by decide)) _⟩, (fr_grown (HF2.out.alloc _) HG5.out (fun k' hk' => HO2.out.base_le k' hk')).set1 3 _⟩
      have h8 := (HK9.out.set 3 (.slice A9 R.length c9)); exact h8
end Go.Proofs.Ytfeddgeihpfjfaa
