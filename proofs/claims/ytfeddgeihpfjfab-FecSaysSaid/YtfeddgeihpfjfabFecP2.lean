/- The plain law of FecSays: interleaving. -/
import Derived.Test.YtfeddgeihpfjfabFecP1
set_option linter.unusedVariables false
set_option linter.unusedSimpArgs false
namespace Go.Proofs.Ytfeddgeihpfjfab
open Go.RowKit Go.Proofs.YtfeddgeihpfjfabW.PrintWords Go.Proofs.YtfeddgeihpfjfabW.PrintLast Go.Proofs.YtfeddgeihpfjfabW.PrintMore Go.Proofs.Ytfeddgeihpfjfab.JFecSays

/-- The words as strings. -/
def WS (ws : List (List Int)) (y : List ByteArray) : Prop := y.length = ws.length ∧ ∀ j : Nat, j < ws.length → (y.getD j ByteArray.empty).size = 7 ∧ ∀ i : Int, 0 ≤ i → i < 7 → bt (y.getD j ByteArray.empty) i = (ws.getD j []).getD i.toNat 0

theorem inter3 (ws : List (List Int)) (y : List ByteArray) (hy : WS ws y) (hn : ws.length ≤ 1024) (d : Int) (hd : 1 ≤ d ∧ d ≤ 64) (fr : Nat) (hfr : fr < ws.length) (k7 : Int) (hk : 0 ≤ k7 ∧ k7 < 7) (r : ByteArray × Int) (q : Nat) : ∀ (j : Nat) (out : List Int), j ≤ min d.toNat (ws.length - fr) → min d.toNat (ws.length - fr) - j = q → out.length + q ≤ 100000 →
    Ev (fun k => patchbayref1_Interleaved.l2 k d y (out ++ (rowOut ((ws.drop fr).take (min d.toNat (ws.length - fr))) k7.toNat).drop j) fr (k7 + 1)) r → Ev (fun k => patchbayref1_Interleaved.l3 k d y out fr k7 ((fr : Int) + j) k7) r := by
  have hyl := hy.1
  have hw7 : Hid (wrap64 (k7 + 1) = k7 + 1) := by
    show wrap64 (k7 + 1) = k7 + 1
    exact w64 (by omega) (by omega)
  have hwd : Hid (wrap64 ((fr : Int) + d) = fr + d) := by
    show wrap64 ((fr : Int) + d) = fr + d
    exact w64 (by omega) (by omega)
  have hrl : (rowOut ((ws.drop fr).take (min d.toNat (ws.length - fr))) k7.toNat).length = min d.toNat (ws.length - fr) := by
    simp [rowOut]
  induction q with
  | zero =>
    intro j out hj hq hl h
    rw [List.drop_eq_nil_of_le (by omega), List.append_nil] at h
    refine Ev.step (fun k => patchbayref1_Interleaved.l3.eq_2 ..) ?_
    rw [hwd.out, hw7.out]
    by_cases c : (fr : Int) + j < fr + d
    · exact ev_pos c (ev_neg (by omega) h)
    · exact ev_neg c h
  | succ q ih =>
    intro j out hj hq hl h
    have hwj : Hid (wrap64 ((fr : Int) + j + 1) = fr + (j + 1 : Nat)) := by
      show wrap64 ((fr : Int) + j + 1) = fr + (j + 1 : Nat)
      rw [w64 (by omega) (by omega)]; push_cast; omega
    have hlt : fr + j < ws.length := by omega
    obtain ⟨h7, hb⟩ := hy.2 (fr + j) hlt
    have hrd : rdOf ByteArray.empty y ((fr : Int) + j) = y.getD (fr + j) ByteArray.empty := by
      show y.getD ((fr : Int) + j).toNat ByteArray.empty = _
      rw [show ((fr : Int) + j).toNat = fr + j by omega]
    refine Ev.step (fun k => patchbayref1_Interleaved.l3.eq_2 ..) ?_
    rw [hwd.out, hwj.out, hrd]
    refine ev_pos (by omega) (ev_pos (by omega) (ev_pos (by omega) (ev_pos hk.1 (ev_pos (by omega) (ev_pos (by omega) ?_)))))
    refine ih (j + 1) _ (by omega) (by omega) (by simp; omega) ?_
    have e : (rowOut ((ws.drop fr).take (min d.toNat (ws.length - fr))) k7.toNat).drop j = bt (y.getD (fr + j) ByteArray.empty) k7 :: (rowOut ((ws.drop fr).take (min d.toNat (ws.length - fr))) k7.toNat).drop (j + 1) := by
      rw [List.drop_eq_getElem_cons (by omega)]
      congr 1
      rw [hb k7 hk.1 hk.2]
      simp [rowOut, List.getD_eq_getElem?_getD, List.getElem?_eq_getElem hlt]
    rw [e] at h
    rw [List.append_assoc]
    exact h

theorem inter2 (ws : List (List Int)) (y : List ByteArray) (hy : WS ws y) (hn : ws.length ≤ 1024) (d : Int) (hd : 1 ≤ d ∧ d ≤ 64) (fr : Nat) (hfr : fr < ws.length) (r : ByteArray × Int) (q : Nat) : ∀ (k7 : Nat) (out : List Int), k7 ≤ 7 → 7 - k7 = q → out.length ≤ 7168 + 64 * k7 →
    Ev (fun k => patchbayref1_Interleaved.l1 k d y (out ++ (rowsOut ((ws.drop fr).take (min d.toNat (ws.length - fr))) 7).drop (k7 * min d.toNat (ws.length - fr))) (fr + d)) r → Ev (fun k => patchbayref1_Interleaved.l2 k d y out fr k7) r := by
  have hwd : Hid (wrap64 ((fr : Int) + d) = fr + d) := by
    show wrap64 ((fr : Int) + d) = fr + d
    exact w64 (by omega) (by omega)
  have hbl : ((ws.drop fr).take (min d.toNat (ws.length - fr))).length = min d.toNat (ws.length - fr) := by simp
  have hm64 : min d.toNat (ws.length - fr) ≤ 64 := by omega
  generalize hblk : (ws.drop fr).take (min d.toNat (ws.length - fr)) = blk at hbl
  induction q with
  | zero =>
    intro k7 out hk hq hl h
    obtain rfl : k7 = 7 := by omega
    rw [List.drop_eq_nil_of_le (by rw [rowsOut_len, hbl]; exact Nat.le_refl _), List.append_nil] at h
    refine Ev.step (fun k => patchbayref1_Interleaved.l2.eq_2 ..) (ev_neg (by omega) ?_)
    rw [hwd.out]; exact h
  | succ q ih =>
    intro k7 out hk hq hl h
    refine Ev.step (fun k => patchbayref1_Interleaved.l2.eq_2 ..) (ev_pos (by omega) ?_)
    have h3 := inter3 ws y hy hn d hd fr hfr k7 ⟨by omega, by omega⟩ r (min d.toNat (ws.length - fr)) 0 out (by omega) (by omega) (by omega)
    rw [hblk] at h3
    have e0 : ((fr : Int) + ((0 : Nat) : Int)) = fr := by omega
    rw [e0] at h3
    refine h3 ?_
    rw [List.drop_zero, Int.toNat_natCast]
    have e1 : ((k7 : Int) + 1) = ((k7 + 1 : Nat) : Int) := by omega
    rw [e1]
    have hrow : (rowOut blk k7).length = min d.toNat (ws.length - fr) := by simp [rowOut, hbl]
    refine ih (k7 + 1) _ (by omega) (by omega) (by rw [List.length_append, hrow]; omega) ?_
    have e2 : (rowsOut blk 7).drop (k7 * min d.toNat (ws.length - fr)) = rowOut blk k7 ++ (rowsOut blk 7).drop ((k7 + 1) * min d.toNat (ws.length - fr)) := by
      have key : ∀ m : Nat, ∃ t, rowsOut blk (k7 + 1 + m) = rowsOut blk k7 ++ (rowOut blk k7 ++ t) := by
        intro m
        induction m with
        | zero => exact ⟨[], by simp [rowsOut]⟩
        | succ m ihm =>
          obtain ⟨t, ht⟩ := ihm
          refine ⟨t ++ rowOut blk (k7 + 1 + m), ?_⟩
          show rowsOut blk (k7 + 1 + m) ++ rowOut blk (k7 + 1 + m) = _
          rw [ht]; simp [List.append_assoc]
      obtain ⟨t, ht⟩ := key (7 - (k7 + 1))
      rw [show k7 + 1 + (7 - (k7 + 1)) = 7 by omega] at ht
      rw [ht]
      have hk0 : (rowsOut blk k7).length = k7 * min d.toNat (ws.length - fr) := by rw [rowsOut_len, hbl]
      rw [← hk0, List.drop_left]
      have hk1 : (k7 + 1) * min d.toNat (ws.length - fr) = (rowsOut blk k7 ++ rowOut blk k7).length := by rw [List.length_append, hk0, hrow, Nat.succ_mul]
      rw [hk1, ← List.append_assoc, List.drop_left]
    rw [e2, ← List.append_assoc] at h
    exact h

theorem inter1 (ws : List (List Int)) (y : List ByteArray) (hy : WS ws y) (hn : ws.length ≤ 1024) (d : Int) (hd : 1 ≤ d ∧ d ≤ 64) (q : Nat) : ∀ (fr : Nat) (out : List Int), ws.length - fr ≤ q → fr ≤ 1100 → out.length ≤ 7 * min fr ws.length →
    Ev (fun k => patchbayref1_Interleaved.l1 k d y out fr) (strOfNums (out ++ encL d.toNat (ws.drop fr).length (ws.drop fr)), 0) := by
  have hyl := hy.1
  induction q with
  | zero =>
    intro fr out hq hf hl
    rw [List.drop_eq_nil_of_le (by omega)]
    refine Ev.step (fun k => patchbayref1_Interleaved.l1.eq_2 ..) (ev_neg (by omega) (ev_eq (Ev.now _) ?_))
    simp [encL]
  | succ q ih =>
    intro fr out hq hf hl
    by_cases hfr : fr < ws.length
    · refine Ev.step (fun k => patchbayref1_Interleaved.l1.eq_2 ..) (ev_pos (by omega) ?_)
      have hdl : (ws.drop fr).length = ws.length - fr := List.length_drop
      have hst := encL_step d.toNat (by omega) (ws.drop fr).length (ws.drop fr) (Nat.le_refl _) (by omega)
      rw [hst, hdl]
      have h2 := inter2 ws y hy hn d hd fr hfr (strOfNums (out ++ (rowsOut ((ws.drop fr).take (min d.toNat (ws.length - fr))) 7 ++ encL d.toNat ((ws.drop fr).drop (min d.toNat (ws.length - fr))).length ((ws.drop fr).drop (min d.toNat (ws.length - fr))))), 0) 7 0 out (by omega) (by omega) (by omega)
      refine h2 ?_
      rw [Nat.zero_mul, List.drop_zero]
      have hrl : (rowsOut ((ws.drop fr).take (min d.toNat (ws.length - fr))) 7).length = 7 * min d.toNat (ws.length - fr) := by rw [rowsOut_len]; simp
      have e1 : ((fr : Int) + d) = ((fr + d.toNat : Nat) : Int) := by omega
      rw [e1]
      have hdd : (ws.drop fr).drop (min d.toNat (ws.length - fr)) = ws.drop (fr + d.toNat) := by
        rw [List.drop_drop]
        by_cases c : d.toNat ≤ ws.length - fr
        · rw [Nat.min_eq_left c]
        · rw [Nat.min_eq_right (by omega), List.drop_eq_nil_of_le (by omega), List.drop_eq_nil_of_le (by omega)]
      rw [hdd, ← List.append_assoc]
      exact ih (fr + d.toNat) _ (by omega) (by omega) (by rw [List.length_append, hrl]; omega)
    · rw [List.drop_eq_nil_of_le (by omega)]
      refine Ev.step (fun k => patchbayref1_Interleaved.l1.eq_2 ..) (ev_neg (by omega) (ev_eq (Ev.now _) ?_))
      simp [encL]

theorem wordsOf_at (l : List UInt8) : ∀ i : Nat, i < l.length → (wordsOf l).getD (2 * i) [] = wordL (((l.getD i 0).toNat : Int) / 16) ∧ (wordsOf l).getD (2 * i + 1) [] = wordL (((l.getD i 0).toNat : Int) % 16) := by
  induction l with
  | nil => intro i h; simp at h
  | cons c l ih =>
    intro i h
    have e : wordsOf (c :: l) = wordL ((c.toNat : Int) / 16) :: wordL ((c.toNat : Int) % 16) :: wordsOf l := rfl
    rw [e]
    cases i with
    | zero => exact ⟨rfl, rfl⟩
    | succ i =>
      have := ih i (by simpa using h)
      rw [show 2 * (i + 1) = 2 * i + 1 + 1 by omega]
      simpa only [List.getD_cons_succ] using this

theorem shr_u8 (c : Nat) (h : c < 256) : Go.bits .and .i64 (wrap64 (shr .u8 (c : Int) 4)) 15 = (c : Int) / 16 ∧ Go.bits .and .i64 (wrap64 (shr .u8 (c : Int) 0)) 15 = (c : Int) % 16 := by
  have : ∀ c : Fin 256, Go.bits .and .i64 (wrap64 (shr .u8 (c.val : Int) 4)) 15 = (c.val : Int) / 16 ∧ Go.bits .and .i64 (wrap64 (shr .u8 (c.val : Int) 0)) 15 = (c.val : Int) % 16 := by decide +kernel
  exact this ⟨c, h⟩

theorem sh4 : wrap64 (4 - wrap64 (4 * ((0 : Nat) : Int))) = 4 := by decide +kernel
theorem sh0 : wrap64 (4 - wrap64 (4 * ((1 : Nat) : Int))) = 0 := by decide +kernel
theorem bt_word {n i : Int} (h0 : 0 ≤ n) (h1 : n ≤ 15) : bt (strOfNums (wordL n)) i = rd (wordL n) i := by
  rw [← rd_bytesOf, word_bytes h0 h1]

theorem inter0 (s : ByteArray) (hs : s.size ≤ 512) (d : Int) (hd : 1 ≤ d ∧ d ≤ 64) (q : Nat) : ∀ (i : Nat) (y : List ByteArray), y.length = 2 * s.size → i ≤ 2 * s.size → 2 * s.size - i = q →
    (∀ j : Nat, j < i → (y.getD j ByteArray.empty).size = 7 ∧ ∀ t : Int, 0 ≤ t → t < 7 → bt (y.getD j ByteArray.empty) t = ((wordsOf s.data.toList).getD j []).getD t.toNat 0) →
    Ev (fun k => patchbayref1_Interleaved.l0 k s d y y.length i) (strOfNums (encL d.toNat (wordsOf s.data.toList).length (wordsOf s.data.toList)), 0) := by
  have hwl : (wordsOf s.data.toList).length = 2 * s.size := by rw [wordsOf_len]; simp
  induction q with
  | zero =>
    intro i y hy hi hq h
    refine Ev.step (fun k => patchbayref1_Interleaved.l0.eq_2 ..) (ev_neg (by omega) ?_)
    have := inter1 (wordsOf s.data.toList) y ⟨by omega, fun j hj => h j (by omega)⟩ (by omega) d hd (wordsOf s.data.toList).length 0 [] (by omega) (by omega) (by simp)
    simpa using this
  | succ q ih =>
    intro i y hy hi hq h
    have hwi : Hid (wrap64 ((i : Int) + 1) = ((i + 1 : Nat) : Int)) := by
      show wrap64 ((i : Int) + 1) = ((i + 1 : Nat) : Int)
      rw [w64 (by omega) (by omega)]; omega
    have hdv : Hid (wrap64 (Int.tdiv (i : Int) 2) = ((i / 2 : Nat) : Int)) := by
      show wrap64 (Int.tdiv (i : Int) 2) = ((i / 2 : Nat) : Int)
      rw [Int.tdiv_eq_ediv_of_nonneg (by omega), w64 (by omega) (by omega)]; omega
    have hmd : Hid (Int.tmod (i : Int) 2 = ((i % 2 : Nat) : Int)) := by
      show Int.tmod (i : Int) 2 = ((i % 2 : Nat) : Int)
      rw [Int.tmod_eq_emod_of_nonneg (by omega)]; omega
    have hlt : i / 2 < s.size := by omega
    have hb : bt s ((i / 2 : Nat) : Int) = (s[i / 2].toNat : Int) := (bt_at s ((i / 2 : Nat) : Int) (by rw [Int.toNat_natCast]; exact hlt)).symm
    have hsh := shr_u8 _ s[i / 2].toNat_lt
    have hwa := wordsOf_at s.data.toList (i / 2) (by simpa using hlt)
    have hg : s.data.toList.getD (i / 2) 0 = s[i / 2] := by
      rw [List.getD_eq_getElem?_getD, List.getElem?_eq_getElem (by simpa using hlt)]; rfl
    rw [hg] at hwa
    have hc := s[i / 2].toNat_lt
    generalize s[i / 2].toNat = c at hb hsh hwa hc
    have HSH := Lib.hid hsh
    have HWA := Lib.hid hwa
    have HBB := Lib.hid hb
    clear hsh hwa hb hg
    have hc' : (c : Int) < 256 := by omega
    have hc0 : (0 : Int) ≤ c := by omega
    have d1 : (0 : Int) ≤ (c : Int) / 16 ∧ (c : Int) / 16 ≤ 15 := by omega
    have d2 : (0 : Int) ≤ (c : Int) % 16 ∧ (c : Int) % 16 ≤ 15 := by omega
    -- the nibble
    obtain ⟨v, hv0, hv1, hv2, hv3, hv4⟩ : ∃ v : Int, 0 ≤ v ∧ v ≤ 15 ∧ Go.bits .and .i64 (wrap64 (shr .u8 (bt s ((i / 2 : Nat) : Int)) (wrap64 (4 - wrap64 (4 * ((i % 2 : Nat) : Int)))))) 15 = v ∧ (wordsOf s.data.toList).getD i [] = wordL v ∧ 0 ≤ wrap64 (4 - wrap64 (4 * ((i % 2 : Nat) : Int))) := by
      rw [HBB.out]
      by_cases ci : i % 2 = 0
      · refine ⟨(c : Int) / 16, d1.1, d1.2, ?_, ?_, ?_⟩
        · rw [ci, sh4]; exact HSH.out.1
        · rw [← HWA.out.1]; congr 1; omega
        · rw [ci, sh4]; decide
      · have c1 : i % 2 = 1 := by omega
        refine ⟨(c : Int) % 16, d2.1, d2.2, ?_, ?_, ?_⟩
        · rw [c1, sh0]; exact HSH.out.2
        · rw [← HWA.out.2]; congr 1; omega
        · rw [c1, sh0]; decide
    refine Ev.step (fun k => patchbayref1_Interleaved.l0.eq_2 ..) ?_
    rw [hwi.out, hdv.out, hmd.out]
    refine ev_pos (by omega) (ev_pos (by omega) (ev_pos (by omega) (ev_pos hv4 ?_)))
    rw [hv2]
    refine Ev.bind (ham_is hv0 hv1) (ev_pos (by omega) (ev_pos (by omega) ?_))
    have hlen : (y.set ((i : Int) : Int).toNat (strOfNums (wordL v))).length = y.length := by simp
    have := ih (i + 1) (y.set ((i : Int) : Int).toNat (strOfNums (wordL v))) (by rw [hlen]; exact hy) (by omega) (by omega) ?_
    · rw [hlen] at this; exact this
    · intro j hj
      rw [Int.toNat_natCast]
      by_cases e : j = i
      · subst e
        have e1 : (y.set j (strOfNums (wordL v))).getD j ByteArray.empty = strOfNums (wordL v) := by
          rw [List.getD_eq_getElem?_getD, List.getElem?_set_self (by omega)]; rfl
        rw [e1]
        refine ⟨word_size hv0 hv1, fun t t0 t1 => ?_⟩
        rw [bt_word hv0 hv1, hv3]; rfl
      · have e1 : (y.set i (strOfNums (wordL v))).getD j ByteArray.empty = y.getD j ByteArray.empty := by
          rw [List.getD_eq_getElem?_getD, List.getElem?_set_ne (by omega), ← List.getD_eq_getElem?_getD]
        rw [e1]
        exact h j (by omega)

/-- Both encoders. -/
theorem enc_both (s : ByteArray) (d : Int) : ∃ r, fec_Encode.f s d = some r ∧ Ev (fun k => patchbayref1_Interleaved.f k s d) r := by
  unfold fec_Encode.f patchbayref1_Interleaved.f
  by_cases c0 : (s.size : Int) > 512
  · exact ⟨_, if_pos c0, ev_pos c0 (Ev.now _)⟩
  · rw [if_neg c0]
    by_cases c1 : d < 1
    · exact ⟨_, if_pos c1, ev_neg c0 (ev_pos c1 (Ev.step (fun k => patchbayref1_Interleaved.j0.eq_2 ..) (ev_pos rfl (Ev.now _))))⟩
    · rw [if_neg c1]
      by_cases c2 : d > 64
      · exact ⟨_, if_pos c2, ev_neg c0 (ev_neg c1 (Ev.step (fun k => patchbayref1_Interleaved.j0.eq_2 ..) (ev_pos (by simpa using c2) (Ev.now _))))⟩
      · rw [if_neg c2]
        refine ⟨_, rfl, ev_neg c0 (ev_neg c1 (Ev.step (fun k => patchbayref1_Interleaved.j0.eq_2 ..) (ev_neg (by simpa using c2) ?_)))⟩
        have hw : Hid (wrap64 (2 * (s.size : Int)) = 2 * s.size) := by
          show wrap64 (2 * (s.size : Int)) = 2 * s.size
          exact w64 (by omega) (by omega)
        rw [hw.out]
        refine ev_pos (by omega) (ev_pos (by omega) ?_)
        have e : (2 * (s.size : Int)).toNat = 2 * s.size := by omega
        rw [e]
        refine ev_bind1 rfl ?_
        exact inter0 s (by omega) d ⟨by omega, by omega⟩ (2 * s.size) 0 (List.replicate (2 * s.size) ⟨#[]⟩) (by simp) (by omega) (by omega) (fun j hj => by omega)
end Go.Proofs.Ytfeddgeihpfjfab
