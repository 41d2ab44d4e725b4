/- The plain law of MediumSays: Clear, and the law. -/
import Derived.Test.YtfeddgeihpfjfaaPMed2
set_option linter.unusedVariables false
set_option linter.unusedSimpArgs false
namespace Go.Proofs.Ytfeddgeihpfjfaa
open Go.RowKit Go.Proofs.YtfeddgeihpfjfaaW.PrintWords Go.Proofs.YtfeddgeihpfjfaaW.PrintLast Go.Proofs.YtfeddgeihpfjfaaW.PrintMore Go.Proofs.Ytfeddgeihpfjfaa.PMediumSays

/-- Do two transmissions meet? -/
noncomputable def mt (l0 : List Int) (x y : S68) : Bool := @decide (Ev (fun k => medium_meet.f k l0 x.f0 x.f1 x.f2 y.f0 y.f1 y.f2) true) (Classical.propDecidable _)
theorem mt_both {l0 : List Int} {ts : List S68} (h : LineOk l0 ts) (x y : S68) (hx : okTk l0.length x) (hy : okTk l0.length y) :
    Ev (fun k => medium_meet.f k l0 x.f0 x.f1 x.f2 y.f0 y.f1 y.f2) (mt l0 x y) ∧ Ev (fun k => patchbayref1_Collide.f k l0 x.f0 x.f1 x.f2 y.f0 y.f1 y.f2) (mt l0 x y) := by
  obtain ⟨r, h1, h2⟩ := meet_collide h x y hx hy
  have e : mt l0 x y = r := by
    unfold mt
    cases r with
    | true => simp [h1]
    | false =>
      simp only [decide_eq_false_iff_not]
      intro h3
      have := ev_one h1 h3
      cases this
  rw [e]; exact ⟨h1, h2⟩

/-- Is transmission j clear of those from k on? -/
noncomputable def clr (l0 : List Int) (ts : List S68) (j : Int) : Nat → Int → Bool
  | 0, _ => true
  | d + 1, k => (decide (j = k) || !mt l0 (rd_T68 ts j) (rd_T68 ts k)) && clr l0 ts j d (k + 1)

theorem set_same (l : List Bool) (j : Nat) (h : j < l.length) : l.set j (l.getD j false) = l := by
  apply List.ext_getElem?
  intro i
  rw [List.getElem?_set]
  split
  · rename_i e; subst e; simp [h, List.getD_eq_getElem?_getD]
  · rfl

theorem clear1 {l0 : List Int} {ts : List S68} (h : LineOk l0 ts) (j : Int) (hj : 0 ≤ j ∧ j < ts.length) (r : List Bool × Int) (d : Nat) : ∀ (k : Int) (c : List Bool), 0 ≤ k → k ≤ ts.length → (ts.length : Int) - k = d → c.length = ts.length →
    Ev (fun K => medium_Clear.l0 K l0 ts (c.set j.toNat (c.getD j.toNat false && clr l0 ts j d k)) ts ts.length (j + 1)) r →
    Ev (fun K => medium_Clear.l1 K l0 ts c j ts ts.length j ts ts.length k (rd_T68 ts j).f0 (rd_T68 ts j).f1 (rd_T68 ts j).f2) r := by
  have hm := h.hm
  have hwj : wrap64 (j + 1) = j + 1 := w64 (by omega) (by omega)
  induction d with
  | zero =>
    intro k c h0 h1 hd hc he
    refine Ev.step (fun K => medium_Clear.l1.eq_2 ..) (ev_neg (by omega) ?_)
    rw [hwj]
    simp only [clr, Bool.and_true] at he
    rw [set_same c _ (by omega)] at he
    exact he
  | succ d ih =>
    intro k c h0 h1 hd hc he
    have hlt : k < (ts.length : Int) := by omega
    have hw : wrap64 (k + 1) = k + 1 := w64 (by omega) (by omega)
    refine Ev.step (fun K => medium_Clear.l1.eq_2 ..) (ev_pos hlt (ev_pos h0 (ev_pos hlt ?_)))
    rw [hw]
    by_cases e : j = k
    · refine ev_pos e (ih (k + 1) c (by omega) (by omega) (by omega) hc ?_)
      simpa only [clr, e, decide_true, Bool.true_or, Bool.true_and] using he
    · obtain ⟨m1, m2⟩ := mt_both h (rd_T68 ts j) (rd_T68 ts k) (h.talks j hj.1 hj.2) (h.talks k h0 hlt)
      refine ev_neg e (Ev.bind m1 ?_)
      simp only [clr, e, decide_false, Bool.false_or] at he
      cases hmt : mt l0 (rd_T68 ts j) (rd_T68 ts k) with
      | true =>
        refine ev_pos rfl (ev_pos hj.1 (ev_pos (by omega) (ih (k + 1) (c.set j.toNat false) (by omega) (by omega) (by omega) (by simpa using hc) ?_)))
        simp only [hmt, Bool.not_true, Bool.false_and, Bool.and_false] at he
        have hg : (c.set j.toNat false).getD j.toNat false = false := by simp [List.getD_eq_getElem?_getD, show j.toNat < c.length by omega]
        rw [hg]
        simpa using he
      | false =>
        refine ev_neg (by simp) (ih (k + 1) c (by omega) (by omega) (by omega) hc ?_)
        simpa only [hmt, Bool.not_false, Bool.true_and] using he

theorem clear0 {l0 : List Int} {ts : List S68} (h : LineOk l0 ts) (d : Nat) : ∀ (i : Int) (c : List Bool), 0 ≤ i → i ≤ ts.length → (ts.length : Int) - i = d → c.length = ts.length →
    ∃ L, Ev (fun K => medium_Clear.l0 K l0 ts c ts ts.length i) (L, 0) ∧ L.length = ts.length ∧ (∀ j : Int, i ≤ j → j < ts.length → L.getD j.toNat false = clr l0 ts j ts.length 0) ∧ ∀ j : Int, 0 ≤ j → j < i → L.getD j.toNat false = c.getD j.toNat false := by
  induction d with
  | zero =>
    intro i c h0 h1 hd hc
    exact ⟨c, Ev.step (fun K => medium_Clear.l0.eq_2 ..) (ev_neg (by omega) (Ev.now _)), hc, fun j h2 h3 => by omega, fun j _ _ => rfl⟩
  | succ d ih =>
    intro i c h0 h1 hd hc
    have hlt : i < (ts.length : Int) := by omega
    obtain ⟨L, e1, e2, e3, e4⟩ := ih (i + 1) ((c.set i.toNat true).set i.toNat ((c.set i.toNat true).getD i.toNat false && clr l0 ts i ts.length 0)) (by omega) (by omega) (by omega) (by simpa using hc)
    refine ⟨L, ?_, e2, fun j h2 h3 => ?_, fun j h2 h3 => ?_⟩
    · refine Ev.step (fun K => medium_Clear.l0.eq_2 ..) (ev_pos hlt (ev_pos h0 (ev_pos hlt (ev_pos (by omega) ?_))))
      exact clear1 h i ⟨h0, hlt⟩ (L, 0) ts.length 0 (c.set i.toNat true) (by omega) (by omega) (by omega) (by simpa using hc) e1
    · by_cases e : j = i
      · subst e
        rw [e4 j h0 (by omega)]
        simp [List.getD_eq_getElem?_getD, show j.toNat < c.length by omega]
      · exact e3 j (by omega) h3
    · rw [e4 j h2 (by omega)]
      have hne : i.toNat ≠ j.toNat := by omega
      simp [List.getD_eq_getElem?_getD, List.getElem?_set_ne hne]

theorem clears {l0 : List Int} {ts : List S68} (h : LineOk l0 ts) (hck : Ev (fun k => medium_Check.f k l0 ts) 0) : ∃ L, Ev (fun k => medium_Clear.f k l0 ts) (L, 0) ∧ L.length = ts.length ∧ ∀ j : Int, 0 ≤ j → j < ts.length → L.getD j.toNat false = clr l0 ts j ts.length 0 := by
  have hm := h.hm
  obtain ⟨L, e1, e2, e3, _⟩ := clear0 h ts.length 0 (List.replicate ((ts.length : Int) : Int).toNat false) (by omega) (by omega) (by omega) (by simp)
  refine ⟨L, ?_, e2, fun j h1 h2 => e3 j h1 h2⟩
  unfold medium_Clear.f
  exact Ev.bind hck (ev_pos rfl (ev_pos (by omega) (ev_pos (by omega) e1)))

/-- The law's own loops. -/
theorem laws1 {l0 : List Int} {ts : List S68} (h : LineOk l0 ts) (a t n e1 : Int) (L : List Bool) (idle : Bool) (e3 : Int) (hL : L.length = ts.length) (j : Int) (hj : 0 ≤ j ∧ j < ts.length) (d : Nat) : ∀ (k : Int) (acc : Bool), 0 ≤ k → k ≤ ts.length → (ts.length : Int) - k = d →
    L.getD j.toNat false = (acc && clr l0 ts j d k) → Ev (fun K => patchbaylaw1_MediumSays.l0 K l0 ts a t n e1 L idle e3 ts ts.length (j + 1)) true →
    Ev (fun K => patchbaylaw1_MediumSays.l1 K l0 ts a t n e1 L idle e3 j acc ts ts.length j ts ts.length k (rd_T68 ts j).f0 (rd_T68 ts j).f1 (rd_T68 ts j).f2) true := by
  have hm := h.hm
  have hwj : wrap64 (j + 1) = j + 1 := w64 (by omega) (by omega)
  induction d with
  | zero =>
    intro k acc h0 h1 hd hc he
    refine Ev.step (fun K => patchbaylaw1_MediumSays.l1.eq_2 ..) (ev_neg (by omega) (ev_pos hj.1 (ev_pos (by omega) (ev_neg ?_ ?_))))
    · simp only [clr, Bool.and_true] at hc
      simp only [rdOf, hc]
      simp
    · rw [hwj]; exact he
  | succ d ih =>
    intro k acc h0 h1 hd hc he
    have hlt : k < (ts.length : Int) := by omega
    have hw : wrap64 (k + 1) = k + 1 := w64 (by omega) (by omega)
    refine Ev.step (fun K => patchbaylaw1_MediumSays.l1.eq_2 ..) (ev_pos hlt (ev_pos h0 (ev_pos hlt ?_)))
    rw [hw]
    cases acc with
    | false =>
      refine ev_neg (by simp) (ih (k + 1) false (by omega) (by omega) (by omega) ?_ he)
      simpa using hc
    | true =>
      refine ev_pos rfl ?_
      by_cases e : j = k
      · refine ev_pos e (ih (k + 1) true (by omega) (by omega) (by omega) ?_ he)
        simpa only [clr, e, decide_true, Bool.true_or, Bool.true_and] using hc
      · obtain ⟨m1, m2⟩ := mt_both h (rd_T68 ts j) (rd_T68 ts k) (h.talks j hj.1 hj.2) (h.talks k h0 hlt)
        refine ev_neg e (Ev.bind m2 (ih (k + 1) _ (by omega) (by omega) (by omega) ?_ he))
        simpa only [clr, e, decide_false, Bool.false_or, Bool.true_and] using hc

theorem laws0 {l0 : List Int} {ts : List S68} (h : LineOk l0 ts) (a t n e1 : Int) (L : List Bool) (idle : Bool) (e3 : Int) (hL : L.length = ts.length) (hc : ∀ j : Int, 0 ≤ j → j < ts.length → L.getD j.toNat false = clr l0 ts j ts.length 0)
    (hend : Ev (fun K => if a < 0 then (patchbaylaw1_MediumSays.j4 K l0 ts a t n e1 idle e3 true) else (patchbaylaw1_MediumSays.j4 K l0 ts a t n e1 idle e3 (decide (a ≥ (l0.length : Int))))) true) (d : Nat) : ∀ (i : Int), 0 ≤ i → i ≤ ts.length → (ts.length : Int) - i = d →
    Ev (fun K => patchbaylaw1_MediumSays.l0 K l0 ts a t n e1 L idle e3 ts ts.length i) true := by
  induction d with
  | zero =>
    intro i h0 h1 hd
    exact Ev.step (fun K => patchbaylaw1_MediumSays.l0.eq_2 ..) (ev_neg (by omega) hend)
  | succ d ih =>
    intro i h0 h1 hd
    have hlt : i < (ts.length : Int) := by omega
    refine Ev.step (fun K => patchbaylaw1_MediumSays.l0.eq_2 ..) (ev_pos hlt (ev_pos h0 (ev_pos hlt ?_)))
    exact laws1 h a t n e1 L idle e3 hL i ⟨h0, hlt⟩ ts.length 0 true (by omega) (by omega) (by omega) (by rw [hc i h0 hlt, Bool.true_and]) (ih (i + 1) (by omega) (by omega) (by omega))

theorem medium_first : Ev (fun k => medium_Heard.f k [0, 2] [(⟨0, 5, 3⟩ : S68)] 1 9) (1, 0) := Ev.of (fun k => medium_Heard.mono _ _ _ _ k) (k := 20) (by decide +kernel)

theorem medium_pure (l0 : List Int) (ts : List S68) (a t : Int) : ∃ k, patchbaylaw1_MediumSays.f k l0 ts a t = some true := by
  apply Ev.rounds (g := fun k => patchbaylaw1_MediumSays.f k l0 ts a t)
  unfold patchbaylaw1_MediumSays.f
  refine Ev.bind medium_first (ev_pos rfl (Ev.step (fun k => patchbaylaw1_MediumSays.j0.eq_2 ..) (ev_neg (by decide) ?_)))
  obtain ⟨v, c1, c2, c3⟩ := chk l0 ts
  by_cases hv : v = 0
  · subst hv
    have h := c3 rfl
    have hm := h.hm
    obtain ⟨L, q1, q2, q3⟩ := clears h c1
    -- what Heard tells
    obtain ⟨n, e, hh, hend⟩ : ∃ n e, Ev (fun k => medium_Heard.f k l0 ts a t) (n, e) ∧ ∀ (idle : Bool) (e3 : Int), (e3 = e) → (idle = (decide (e = 0) && decide (n = 0))) →
        Ev (fun K => if a < 0 then (patchbaylaw1_MediumSays.j4 K l0 ts a t n e idle e3 true) else (patchbaylaw1_MediumSays.j4 K l0 ts a t n e idle e3 (decide (a ≥ (l0.length : Int))))) true := by
      by_cases ha : 0 ≤ a ∧ a < l0.length
      · by_cases ht : 0 ≤ t ∧ t ≤ 1000000000
        · obtain ⟨n, g1, g2⟩ := heards h ha ht ts.length 0 0 (by omega) (by omega) (by omega) (by omega) (by omega)
          refine ⟨n, 0, ?_, ?_⟩
          · unfold medium_Heard.f
            refine Ev.bind c1 (ev_pos rfl (ev_neg (by omega) (Ev.step (fun k => medium_Heard.j0.eq_2 ..) (ev_neg (by simp; omega) (ev_neg (by omega) (Ev.step (fun k => medium_Heard.j1.eq_2 ..) (ev_neg (by simp; omega) g1)))))))
          · rintro idle e3 rfl rfl
            refine ev_neg (by omega) (Ev.step (fun k => patchbaylaw1_MediumSays.j4.eq_2 ..) (ev_neg (by simp; omega) (ev_neg (by omega) (ev_neg (by omega) ?_))))
            refine Ev.bind (a := n) g2 (ev_pos rfl (ev_pos rfl (ev_pos rfl ?_)))
            refine ev_eq (Ev.now _) ?_
            by_cases c : n = 0 <;> simp [c]
        · refine ⟨0, 10, ?_, ?_⟩
          · unfold medium_Heard.f
            refine Ev.bind c1 (ev_pos rfl (ev_neg (by omega) (Ev.step (fun k => medium_Heard.j0.eq_2 ..) (ev_neg (by simp; omega) ?_))))
            by_cases c : t < 0
            · exact ev_pos c (Ev.step (fun k => medium_Heard.j1.eq_2 ..) (ev_pos rfl (Ev.now _)))
            · exact ev_neg c (Ev.step (fun k => medium_Heard.j1.eq_2 ..) (ev_pos (by simp; omega) (Ev.now _)))
          · rintro idle e3 rfl rfl
            refine ev_neg (by omega) (Ev.step (fun k => patchbaylaw1_MediumSays.j4.eq_2 ..) (ev_neg (by simp; omega) ?_))
            by_cases c : t < 0
            · exact ev_pos c (ev_pos rfl (ev_pos rfl (ev_pos rfl (Ev.now _))))
            · exact ev_neg c (ev_pos (by omega) (ev_pos rfl (ev_pos rfl (ev_pos rfl (Ev.now _)))))
      · refine ⟨0, 1, ?_, ?_⟩
        · unfold medium_Heard.f
          refine Ev.bind c1 (ev_pos rfl ?_)
          by_cases c : a < 0
          · exact ev_pos c (Ev.step (fun k => medium_Heard.j0.eq_2 ..) (ev_pos rfl (Ev.now _)))
          · exact ev_neg c (Ev.step (fun k => medium_Heard.j0.eq_2 ..) (ev_pos (by simp; omega) (Ev.now _)))
        · rintro idle e3 rfl rfl
          by_cases c : a < 0
          · exact ev_pos c (Ev.step (fun k => patchbaylaw1_MediumSays.j4.eq_2 ..) (ev_pos rfl (ev_pos rfl (ev_pos rfl (ev_pos rfl (Ev.now _))))))
          · exact ev_neg c (Ev.step (fun k => patchbaylaw1_MediumSays.j4.eq_2 ..) (ev_pos (by simp; omega) (ev_pos rfl (ev_pos rfl (ev_pos rfl (Ev.now _))))))
    have hs : Ev (fun k => medium_Sense.f k l0 ts a t) (decide (e = 0) && decide (n = 0), e) := by
      unfold medium_Sense.f
      refine Ev.bind hh ?_
      by_cases c : e = 0
      · refine ev_pos c (ev_eq (Ev.now _) ?_)
        by_cases c2 : n = 0 <;> simp [c, c2]
      · exact ev_neg c (ev_eq (Ev.now _) (by simp [c]))
    refine Ev.bind hh (Ev.bind q1 (Ev.bind hs (Ev.bind c2 (Ev.bind c1 (ev_pos rfl (ev_pos rfl (ev_pos rfl ?_)))))))
    refine Ev.step (fun k => patchbaylaw1_MediumSays.j1.eq_2 ..) (ev_neg (by simp [q2]) ?_)
    exact laws0 h a t n e L _ e q2 q3 (hend _ _ rfl rfl) ts.length 0 (by omega) (by omega) (by omega)
  · have hh : Ev (fun k => medium_Heard.f k l0 ts a t) (0, v) := by
      unfold medium_Heard.f
      exact Ev.bind c1 (ev_neg hv (Ev.now _))
    have hs : Ev (fun k => medium_Sense.f k l0 ts a t) (false, v) := by
      unfold medium_Sense.f
      exact Ev.bind hh (ev_neg hv (Ev.now _))
    have hcl : Ev (fun k => medium_Clear.f k l0 ts) ([], v) := by
      unfold medium_Clear.f
      exact Ev.bind c1 (ev_neg hv (Ev.now _))
    refine Ev.bind hh (Ev.bind hcl (Ev.bind hs (Ev.bind c2 (Ev.bind c1 (ev_pos rfl (ev_neg hv ?_))))))
    exact ev_pos rfl (ev_pos rfl (ev_pos rfl (ev_pos rfl (ev_pos rfl (Ev.now _)))))
end Go.Proofs.Ytfeddgeihpfjfaa
