/- The plain law of FecSays: both decoders, and the law. -/
import Derived.Test.YtfeddgeihpfjfabFecP3
set_option linter.unusedVariables false
set_option linter.unusedSimpArgs false
namespace Go.Proofs.Ytfeddgeihpfjfab
open Go.RowKit Go.Proofs.YtfeddgeihpfjfabW.PrintWords Go.Proofs.YtfeddgeihpfjfabW.PrintLast Go.Proofs.YtfeddgeihpfjfabW.PrintMore Go.Proofs.Ytfeddgeihpfjfab.JFecSays

theorem nil_iff (x : ByteArray) : x.toList = [] ↔ x.size = 0 := by
  rw [ByteArray.toList_eq]
  constructor
  · intro h
    have : x.data.toList.length = 0 := by rw [h]; rfl
    simpa using this
  · intro h
    exact List.eq_nil_of_length_eq_zero (by simpa using h)
theorem wl_bits (b : ByteArray) (hb : isBitsB b = true) (fr m i : Nat) (h : 7 * fr + 7 * m ≤ b.size) (him : i < m) : ∀ x ∈ wl b fr m i, x = 48 ∨ x = 49 := by
  intro x hx
  obtain ⟨j, hj, rfl⟩ := List.mem_map.1 hx
  have hj7 := List.mem_range.1 hj
  have : j * m ≤ 6 * m := Nat.mul_le_mul_right _ (by omega)
  exact bits_at b hb _ (by omega) (by omega)
theorem div_back (fr i D : Nat) (h : fr % D = 0) (hi : i < D) : (fr + i) / D * D = fr := by
  obtain ⟨c, rfl⟩ := Nat.dvd_of_mod_eq_zero h
  rw [Nat.mul_add_div (by omega), Nat.div_eq_of_lt hi, Nat.add_zero, Nat.mul_comm]
theorem mn_nat (a b : Nat) : mn (a : Int) (b : Int) = ((min a b : Nat) : Int) := by unfold mn; split <;> omega

theorem dv_back (fr i D : Nat) (h : fr % D = 0) (hi : i < D) (hb : fr + i ≤ 5000) : wrap64 ((wrap64 (Int.tdiv ((fr + i : Nat) : Int) (D : Int))) * (D : Int)) = (fr : Int) := by
  rw [Int.tdiv_eq_ediv_of_nonneg (by omega), ← Int.natCast_ediv]
  have h1 := div_back fr i D h hi
  have h2 : (fr + i) / D ≤ fr + i := Nat.div_le_self _ _
  generalize (fr + i) / D = g at h1 h2
  rw [w64 (x := (g : Int)) (by omega) (by omega), show (g : Int) * (D : Int) = ((g * D : Nat) : Int) by push_cast; rfl, h1]
  exact w64 (by omega) (by omega)
theorem sub_back (N fr : Nat) (h : fr ≤ N) (hN : N ≤ 5000) : wrap64 ((N : Int) - (fr : Int)) = ((N - fr : Nat) : Int) := by
  rw [w64 (by omega) (by omega)]; omega
/-- Word behind word. -/
theorem decsep (b : ByteArray) (n2 : Nat) (hb : b.size = 7 * (2 * n2)) (hn2 : n2 ≤ 512) (hbits : isBitsB b = true) (D : Nat) (hD : 1 ≤ D ∧ D ≤ 64) (q : Nat) : ∀ (fr i : Nat) (vals : List Int) (fixed : Nat) (x : ByteArray), i < min D (2 * n2 - fr) → fr % D = 0 → 2 * n2 - (fr + i) = q → vals.length = fr + i → fixed ≤ vals.length → X0 b fr x →
    ∃ r, Ev (fun k => fec_Decode.l1 k x D vals fixed ((min D (2 * n2 - fr) : Nat) : Int) ((min D (2 * n2 - fr) : Nat) : Int) i) r ∧ Ev (fun k => patchbayref1_Separated.l0 k b D ((2 * n2 : Nat) : Int) fixed vals ((2 * n2 : Nat) : Int) ((fr + i : Nat) : Int)) r := by
  induction q with
  | zero => intro fr i vals fixed x hi hfr hq; omega
  | succ q ih =>
    intro fr i vals fixed x hi hfr hq hv hf hx
    generalize hm : min D (2 * n2 - fr) = m at hi ⊢
    have hmD : m ≤ D := by omega
    have hmN : fr + m ≤ 2 * n2 := by omega
    have hxs : x.size = b.size - 7 * fr := hx.1
    obtain ⟨hfx, v0, v1, p0, p1⟩ := fix_is (wl b fr m i) (wl_len _ _ _ _) (wl_bits b hbits fr m i (by omega) hi)
    generalize hnear : nearL (wl b fr m i) 16 0 = vp at hfx v0 v1 p0 p1
    obtain ⟨v, p⟩ := vp
    simp only at v0 v1 p0 p1
    -- what follows this word
    have HWF : Hid (wrap64 ((fixed : Int) + 1) = ((fixed + 1 : Nat) : Int)) := by show wrap64 ((fixed : Int) + 1) = ((fixed + 1 : Nat) : Int); rw [w64 (by omega) (by omega)]; omega
    obtain ⟨fixed', hfx1, hfx2, hfx3⟩ : ∃ fixed' : Nat, fixed' ≤ (vals ++ [v]).length ∧ wrap64 ((fixed : Int) + mn p 1) = (fixed' : Int) ∧ (fixed' : Int) = if p > 0 then ((fixed + 1 : Nat) : Int) else (fixed : Int) := by
      by_cases c : p > 0
      · refine ⟨fixed + 1, by simp; omega, ?_, by rw [if_pos c]⟩
        rw [show mn p 1 = 1 by unfold mn; split <;> omega]; exact HWF.out
      · refine ⟨fixed, by simp; omega, ?_, by rw [if_neg c]⟩
        rw [show mn p 1 = 0 by unfold mn; split <;> omega, Int.add_zero]; exact w64 (by omega) (by omega)
    have HF2 := Lib.hid hfx2
    have HF3 := Lib.hid hfx3
    clear hfx2 hfx3
    have HWI : Hid (wrap64 ((i : Int) + 1) = ((i + 1 : Nat) : Int)) := by show wrap64 ((i : Int) + 1) = ((i + 1 : Nat) : Int); rw [w64 (by omega) (by omega)]; omega
    have HWT : Hid (wrap64 (((fr + i : Nat) : Int) + 1) = ((fr + (i + 1) : Nat) : Int)) := by show wrap64 (((fr + i : Nat) : Int) + 1) = ((fr + (i + 1) : Nat) : Int); rw [w64 (by omega) (by omega)]; omega
    have hvl : (vals ++ [v]).length = fr + (i + 1) := by simp; omega
    obtain ⟨r, e1, e2⟩ : ∃ r, Ev (fun k => fec_Decode.l1 k x D (vals ++ [v]) fixed' m m ((i + 1 : Nat) : Int)) r ∧ Ev (fun k => patchbayref1_Separated.l0 k b D ((2 * n2 : Nat) : Int) fixed' (vals ++ [v]) ((2 * n2 : Nat) : Int) ((fr + (i + 1) : Nat) : Int)) r := by
      by_cases c : i + 1 < m
      · have := ih fr (i + 1) (vals ++ [v]) fixed' x (by omega) hfr (by omega) hvl hfx1 hx
        rw [hm] at this
        exact this
      · have him : i + 1 = m := by omega
        rw [him]
        have hX := hx.next (m := m) (by omega)
        have hszx : (x.extract (7 * m) x.size).size = x.size - 7 * m := by rw [ByteArray.size_extract, Nat.min_self]
        have hw7 : wrap64 (7 * (m : Int)) = ((7 * m : Nat) : Int) := by rw [w64 (by omega) (by omega)]; omega
        have HW7 := Lib.hid hw7
        clear hw7
        obtain ⟨r, e1, e2⟩ : ∃ r, Ev (fun k => fec_Decode.l0 k (x.extract (7 * m) x.size) D (vals ++ [v]) fixed') r ∧ Ev (fun k => patchbayref1_Separated.l0 k b D ((2 * n2 : Nat) : Int) fixed' (vals ++ [v]) ((2 * n2 : Nat) : Int) ((fr + m : Nat) : Int)) r := by
          by_cases ce : fr + m = 2 * n2
          · obtain ⟨r, e1, e2⟩ := fin0 b (x.extract (7 * m) x.size) (by rw [hszx]; omega) D (vals ++ [v]) n2 (by omega) hn2 fixed'
            rw [ce]
            exact ⟨r, e1, e2⟩
          · have hmm : m = D := by omega
            have hfr2 : (fr + m) % D = 0 := by rw [hmm, Nat.add_mod_right]; exact hfr
            obtain ⟨r, e1, e2⟩ := ih (fr + m) 0 (vals ++ [v]) fixed' (x.extract (7 * m) x.size) (by omega) hfr2 (by omega) (by omega) hfx1 hX
            refine ⟨r, ?_, e2⟩
            have hdv : wrap64 (((x.extract (7 * m) x.size).size : Int) / 7) = ((2 * n2 - (fr + m) : Nat) : Int) := by rw [w64 (by omega) (by omega)]; omega
            refine Ev.step (fun k => fec_Decode.l0.eq_2 ..) (ev_neg (by rw [nil_iff]; omega) ?_)
            rw [hdv, mn_nat]
            exact e1
        refine ⟨r, ?_, e2⟩
        refine Ev.step (fun k => fec_Decode.l1.eq_2 ..) (ev_neg (by omega) ?_)
        rw [HW7.out]
        refine ev_pos (by omega) (ev_pos (by omega) ?_)
        rw [Int.toNat_natCast]
        exact e1
    refine ⟨r, ?_, ?_⟩
    · refine Ev.step (fun k => fec_Decode.l1.eq_2 ..) (ev_pos (by omega) (ev_pos (by omega) ?_))
      refine ev_bind1 rfl ?_
      have hz : (List.replicate 7 (0 : Int)).length = 7 := rfl
      refine dec2 b x fr m i hx hi (by omega) (by omega) D vals fixed r 7 0 (List.replicate 7 0) (by omega) (by omega) rfl (by simp) ?_
      refine Ev.bind hfx ?_
      rw [HWF.out, HWI.out]
      by_cases c : p > 0
      · refine ev_pos c (ev_pos (by omega) ?_)
        have := HF3.out
        rw [if_pos c] at this
        rw [← this]; exact e1
      · refine ev_neg c (ev_pos (by omega) ?_)
        have := HF3.out
        rw [if_neg c] at this
        rw [← this]; exact e1
    · have HDV := Lib.hid (dv_back fr i D hfr (by omega) (by omega))
      have HSB := Lib.hid (sub_back (2 * n2) fr (by omega) (by omega))
      refine Ev.step (fun k => patchbayref1_Separated.l0.eq_2 ..) (ev_pos (by omega) (ev_neg (by omega) ?_))
      rw [HDV.out, HSB.out, mn_nat, hm]
      refine sep1 b fr m i (2 * n2) hi hmN hb (by omega) D vals fixed r 7 0 ⟨#[]⟩ (by omega) (by omega) (by simp [bytesOf]) ?_
      intro s7 h7
      have hs7 : s7.size = 7 := by rw [← bytesOf_length, h7, wl_len]
      have hne := near_is s7 hs7
      rw [h7, hnear] at hne
      refine Ev.bind hne (ev_pos (by omega) ?_)
      rw [HF2.out, HWT.out]
      exact e2

theorem dec_both (b : ByteArray) (d : Int) : ∃ r, Ev (fun k => fec_Decode.f k b d) r ∧ Ev (fun k => patchbayref1_Separated.f k b d) r := by
  unfold fec_Decode.f patchbayref1_Separated.f
  by_cases c0 : (b.size : Int) > 7168
  · exact ⟨_, ev_pos c0 (Ev.now _), ev_pos c0 (Ev.now _)⟩
  by_cases c1 : d < 1
  · exact ⟨_, ev_neg c0 (ev_pos c1 (Ev.step (fun k => fec_Decode.j0.eq_2 ..) (ev_pos rfl (Ev.now _)))), ev_neg c0 (ev_pos c1 (Ev.step (fun k => patchbayref1_Separated.j0.eq_2 ..) (ev_pos rfl (Ev.now _))))⟩
  by_cases c2 : d > 64
  · exact ⟨_, ev_neg c0 (ev_neg c1 (Ev.step (fun k => fec_Decode.j0.eq_2 ..) (ev_pos (by simpa using c2) (Ev.now _)))), ev_neg c0 (ev_neg c1 (Ev.step (fun k => patchbayref1_Separated.j0.eq_2 ..) (ev_pos (by simpa using c2) (Ev.now _))))⟩
  have hg := good_f b (by omega)
  have hi : patchbayref1_IsBits.f b = some (isBitsB b) := rfl
  suffices h : ∃ r, Ev (fun k => (fec_good.f k b).bind fun t152 => (if t152 = true then (if ((b.size : Int) % 14) = 0 then (fec_Decode.l0 k b d ([] : List Int) 0) else (some ((⟨#[]⟩ : ByteArray), 0, 9))) else (some ((⟨#[]⟩ : ByteArray), 0, 3)))) r ∧ Ev (fun k => (patchbayref1_IsBits.f b).bind fun t141 => (if t141 = true then (if ((b.size : Int) % 14) > 0 then (some ((⟨#[]⟩ : ByteArray), 0, 9)) else (patchbayref1_Separated.l0 k b d (wrap64 ((b.size : Int) / 7)) 0 ([] : List Int) (wrap64 ((b.size : Int) / 7)) 0)) else (some ((⟨#[]⟩ : ByteArray), 0, 3)))) r by
    obtain ⟨r, e1, e2⟩ := h
    exact ⟨r, ev_neg c0 (ev_neg c1 (Ev.step (fun k => fec_Decode.j0.eq_2 ..) (ev_neg (by simpa using c2) e1))), ev_neg c0 (ev_neg c1 (Ev.step (fun k => patchbayref1_Separated.j0.eq_2 ..) (ev_neg (by simpa using c2) e2)))⟩
  by_cases hb : isBitsB b = true
  · rw [hb] at hg hi
    by_cases c3 : (b.size : Int) % 14 = 0
    · obtain ⟨n2, hn2⟩ : ∃ n2 : Nat, b.size = 7 * (2 * n2) := ⟨b.size / 14, by omega⟩
      obtain ⟨D, rfl⟩ := Int.eq_ofNat_of_zero_le (show 0 ≤ d by omega)
      have hw : wrap64 ((b.size : Int) / 7) = ((2 * n2 : Nat) : Int) := by rw [w64 (by omega) (by omega)]; omega
      suffices h : ∃ r, Ev (fun k => fec_Decode.l0 k b D ([] : List Int) 0) r ∧ Ev (fun k => patchbayref1_Separated.l0 k b D ((2 * n2 : Nat) : Int) 0 ([] : List Int) ((2 * n2 : Nat) : Int) 0) r by
        obtain ⟨r, e1, e2⟩ := h
        refine ⟨r, Ev.bind hg (ev_pos rfl (ev_pos c3 e1)), ev_bind1 hi (ev_pos rfl (ev_neg (by omega) ?_))⟩
        rw [hw]; exact e2
      by_cases c4 : n2 = 0
      · subst c4
        exact fin0 b b (by omega) D [] 0 rfl (by omega) 0
      · obtain ⟨r, e1, e2⟩ := decsep b n2 hn2 (by omega) hb D ⟨by omega, by omega⟩ (2 * n2) 0 0 [] 0 b (by omega) (by simp) (by omega) rfl (by omega) ⟨by omega, fun j _ _ => by congr 1; omega⟩
        refine ⟨r, ?_, e2⟩
        refine Ev.step (fun k => fec_Decode.l0.eq_2 ..) (ev_neg (by rw [nil_iff]; omega) ?_)
        rw [hw, mn_nat]
        exact e1
    · exact ⟨_, Ev.bind hg (ev_pos rfl (ev_neg c3 (Ev.now _))), ev_bind1 hi (ev_pos rfl (ev_pos (by omega) (Ev.now _)))⟩
  · have hb' : isBitsB b = false := by simpa using hb
    rw [hb'] at hg hi
    exact ⟨_, Ev.bind hg (ev_neg (by simp) (Ev.now _)), ev_bind1 hi (ev_neg (by simp) (Ev.now _))⟩

theorem bytes_bits (w : ByteArray) (hb : isBitsB w = true) : ∀ x ∈ bytesOf w, x = 48 ∨ x = 49 := by
  intro x hx
  obtain ⟨i, hi, rfl⟩ := List.mem_iff_getElem.1 hx
  rw [bytesOf_length] at hi
  have e := rd_bytesOf w (i : Int)
  have e3 : rd (bytesOf w) (i : Int) = (bytesOf w)[i] := by
    unfold rd
    rw [Int.toNat_natCast, List.getD_eq_getElem?_getD, List.getElem?_eq_getElem (by rw [bytesOf_length]; exact hi)]
    rfl
  rw [← e3, e]
  exact bits_at w hb i (by omega) (by omega)

theorem fec_pure : patchbaylaw1_FecSays.Pure := by
  intro n w s b d hn hw hs hb hd
  apply Ev.rounds (g := fun k => patchbaylaw1_FecSays.f k n w s b d)
  unfold patchbaylaw1_FecSays.f
  have h1 : fec_Word.f 1 = some (strOfNums (wordL 1), 0) := rfl
  refine ev_bind1 h1 (ev_pos rfl (Ev.step (fun k => patchbaylaw1_FecSays.j0.eq_2 ..) (ev_neg (by decide +kernel) ?_)))
  -- the end
  have hj4 : Ev (fun k => patchbaylaw1_FecSays.j4 k s b d) true := by
    obtain ⟨r1, a1, a2⟩ := enc_both s d
    obtain ⟨r2, a3, a4⟩ := dec_both b d
    refine Ev.step (fun k => patchbaylaw1_FecSays.j4.eq_2 ..) (ev_bind1 a1 (Ev.bind a2 (Ev.bind a3 (Ev.bind a4 ?_))))
    exact ev_pos rfl (ev_pos rfl (ev_pos rfl (ev_pos rfl (ev_eq (Ev.now _) (by simp)))))
  -- the middle
  have hj2 : Ev (fun k => patchbaylaw1_FecSays.j2 k w s b d) true := by
    refine Ev.step (fun k => patchbaylaw1_FecSays.j2.eq_2 ..) ?_
    by_cases c : (w.size : Int) = 7
    · have hg := good_f w hw
      have hi : patchbayref1_IsBits.f w = some (isBitsB w) := rfl
      by_cases hbw : isBitsB w = true
      · rw [hbw] at hg hi
        obtain ⟨f1, _⟩ := fix_is (bytesOf w) (by rw [bytesOf_length]; omega) (bytes_bits w hbw)
        have hne := near_is w (by omega)
        have hF : Ev (fun k => fec_Fix.f k w) ((nearL (bytesOf w) 16 0).1, (nearL (bytesOf w) 16 0).2, 0) := by
          unfold fec_Fix.f
          exact ev_pos c (Ev.bind hg (ev_pos rfl (Ev.bind f1 (Ev.now _))))
        refine Ev.bind hF (ev_pos c (ev_bind1 hi (Ev.step (fun k => patchbaylaw1_FecSays.j3.eq_2 ..) (ev_neg (by simp) ?_))))
        exact Ev.bind hne (ev_pos rfl (ev_pos rfl (ev_pos rfl hj4)))
      · have hb' : isBitsB w = false := by simpa using hbw
        rw [hb'] at hg hi
        have hF : Ev (fun k => fec_Fix.f k w) (0, 0, 3) := by
          unfold fec_Fix.f
          exact ev_pos c (Ev.bind hg (ev_neg (by simp) (Ev.now _)))
        refine Ev.bind hF (ev_pos c (ev_bind1 hi (Ev.step (fun k => patchbaylaw1_FecSays.j3.eq_2 ..) (ev_pos (by simp) ?_))))
        exact ev_pos rfl (ev_pos rfl (ev_pos rfl hj4))
    · have hF : Ev (fun k => fec_Fix.f k w) (0, 0, 3) := by
        unfold fec_Fix.f
        exact ev_neg c (Ev.now _)
      refine Ev.bind hF (ev_neg c (Ev.step (fun k => patchbaylaw1_FecSays.j3.eq_2 ..) (ev_pos rfl ?_)))
      exact ev_pos rfl (ev_pos rfl (ev_pos rfl hj4))
  by_cases c0 : n < 0
  · have hW : fec_Word.f n = some (⟨#[]⟩, 10) := by unfold fec_Word.f; rw [if_pos c0]
    refine ev_bind1 hW (ev_pos c0 (Ev.step (fun k => patchbaylaw1_FecSays.j1.eq_2 ..) (ev_pos rfl (ev_pos rfl (ev_pos (by rw [nil_iff]; rfl) hj2)))))
  · by_cases c1 : n > 15
    · have hW : fec_Word.f n = some (⟨#[]⟩, 10) := by unfold fec_Word.f; rw [if_neg c0, if_pos c1]
      refine ev_bind1 hW (ev_neg c0 (Ev.step (fun k => patchbaylaw1_FecSays.j1.eq_2 ..) (ev_pos (by simpa using c1) (ev_pos rfl (ev_pos (by rw [nil_iff]; rfl) hj2)))))
    · have hW : fec_Word.f n = some (strOfNums (wordL n), 0) := by unfold fec_Word.f; rw [if_neg c0, if_neg c1]
      refine ev_bind1 hW (ev_neg c0 (Ev.step (fun k => patchbaylaw1_FecSays.j1.eq_2 ..) (ev_neg (by simpa using c1) (ev_pos rfl ?_))))
      exact Ev.bind (ham_is (by omega) (by omega)) (ev_pos rfl hj2)
end Go.Proofs.Ytfeddgeihpfjfab
