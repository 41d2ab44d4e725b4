/- The plain law of MediumSays: what the printed functions tell. -/
import Derived.Test.YtfeddgeihpfjfaaPk
import Derived.Test.YtfeddgeihpfjfaaPMediumSaysx
set_option linter.unusedVariables false
set_option linter.unusedSimpArgs false
namespace Go.Proofs.Ytfeddgeihpfjfaa
open Go.RowKit Go.Proofs.YtfeddgeihpfjfaaW.PrintWords Go.Proofs.YtfeddgeihpfjfaaW.PrintLast Go.Proofs.YtfeddgeihpfjfaaW.PrintMore Go.Proofs.Ytfeddgeihpfjfaa.PMediumSays

def okTk (n : Int) (t : S68) : Prop := (0 ≤ t.f0 ∧ t.f0 < n) ∧ (0 ≤ t.f1 ∧ t.f1 ≤ 1000000) ∧ (1 ≤ t.f2 ∧ t.f2 ≤ 10000)

theorem btw_some (a b c : Int) : patchbayref1_between.f a b c = some (decide (b ≤ a) && decide (a ≤ c)) := by
  unfold patchbayref1_between.f
  by_cases h : b ≤ a
  · simp [h]
  · simp [h]

theorem chk1 (l0 : List Int) (ts : List S68) (hn : l0.length ≤ 16) (hm : ts.length ≤ 32) (d : Nat) : ∀ i : Int, 0 ≤ i → i ≤ ts.length → (ts.length : Int) - i = d →
    ∃ r, Ev (fun k => medium_Check.l1 k l0 ts ts.length i) r ∧ Ev (fun k => patchbayref1_LineErr.l1 k l0 ts ts.length i) r ∧ (r = 0 → ∀ j : Int, i ≤ j → j < ts.length → okTk l0.length (rd_T68 ts j)) := by
  induction d with
  | zero =>
    intro i h0 h1 hd
    refine ⟨0, ?_, ?_, fun _ j h2 h3 => by omega⟩
    · refine Ev.step (fun k => medium_Check.l1.eq_2 ..) ?_
      exact ev_neg (by omega) (Ev.now _)
    · refine Ev.step (fun k => patchbayref1_LineErr.l1.eq_2 ..) ?_
      exact ev_neg (by omega) (Ev.now _)
  | succ d ih =>
    intro i h0 h1 hd
    have hlt : i < (ts.length : Int) := by omega
    have hw : wrap64 (i + 1) = i + 1 := w64 (by omega) (by omega)
    have hl : wrap64 ((l0.length : Int) - 1) = l0.length - 1 := w64 (by omega) (by omega)
    have hc : ∀ b : Bool, ∀ r, Ev (fun k => medium_Check.j3 k l0 ts ts.length i b (rd_T68 ts i).f0 (rd_T68 ts i).f1 (rd_T68 ts i).f2) r →
        (b = (decide ((rd_T68 ts i).f0 < 0) || decide ((rd_T68 ts i).f0 ≥ (l0.length : Int)))) → Ev (fun k => medium_Check.l1 k l0 ts ts.length i) r := by
      intro b r h e
      refine Ev.step (fun k => medium_Check.l1.eq_2 ..) ?_
      refine ev_pos hlt (ev_pos h0 (ev_pos hlt ?_))
      by_cases c : (rd_T68 ts i).f0 < 0
      · refine ev_pos c ?_
        simp only [c, decide_true, Bool.true_or] at e
        subst e; exact h
      · refine ev_neg c ?_
        simp only [c, decide_false, Bool.false_or] at e
        subst e; exact h
    have hr : ∀ r, Ev (fun k => (patchbayref1_between.f (rd_T68 ts i).f0 0 (wrap64 ((l0.length : Int) - 1))).bind fun t134 => (if t134 = true then ((patchbayref1_between.f (rd_T68 ts i).f1 0 1000000).bind fun t135 => (if t135 = true then ((patchbayref1_between.f (rd_T68 ts i).f2 1 10000).bind fun t136 => (if t136 = true then (patchbayref1_LineErr.l1 k l0 ts ts.length (wrap64 (i + 1))) else (some 10))) else (some 10))) else (some 1))) r → Ev (fun k => patchbayref1_LineErr.l1 k l0 ts ts.length i) r := by
      intro r h
      refine Ev.step (fun k => patchbayref1_LineErr.l1.eq_2 ..) ?_
      exact ev_pos hlt (ev_pos h0 (ev_pos hlt h))
    obtain ⟨r, e1, e2, e3⟩ := ih (i + 1) (by omega) (by omega) (by omega)
    rw [hl, hw] at hr
    have hj : ∀ b r, Ev (fun k => if b = true then (some 1) else (if (rd_T68 ts i).f1 < 0 then (some 10) else (if (rd_T68 ts i).f1 > 1000000 then (some 10) else (if (rd_T68 ts i).f2 < 1 then (some 10) else (if (rd_T68 ts i).f2 > 10000 then (some 10) else (medium_Check.l1 k l0 ts ts.length (i + 1))))))) r → Ev (fun k => medium_Check.j3 k l0 ts ts.length i b (rd_T68 ts i).f0 (rd_T68 ts i).f1 (rd_T68 ts i).f2) r := by
      intro b r h
      refine Ev.step (fun k => medium_Check.j3.eq_2 ..) ?_
      rw [hw]; exact h
    have hok : okTk l0.length (rd_T68 ts i) → (r = 0 → ∀ j : Int, i ≤ j → j < ts.length → okTk l0.length (rd_T68 ts j)) := by
      intro ho hr0 j h2 h3
      by_cases c : j = i
      · subst c; exact ho
      · exact e3 hr0 j (by omega) h3
    simp only [btw_some, Option.bind_some] at hr
    unfold okTk at hok
    generalize rd_T68 ts i = t at hc hr hj hok
    obtain ⟨f, a, l⟩ := t
    simp only at hc hr hj hok
    by_cases g0 : 0 ≤ f ∧ f < (l0.length : Int)
    · by_cases g1 : 0 ≤ a ∧ a ≤ 1000000
      · by_cases g2 : 1 ≤ l ∧ l ≤ 10000
        · refine ⟨r, hc false _ (hj _ _ ?_) (by simp; omega), hr _ ?_, hok ⟨g0, g1, g2⟩⟩
          · exact ev_neg (by simp) (ev_neg (by omega) (ev_neg (by omega) (ev_neg (by omega) (ev_neg (by omega) e1))))
          · exact ev_pos (by simp; omega) (ev_pos (by simp; omega) (ev_pos (by simp; omega) e2))
        · refine ⟨10, hc false _ (hj _ _ ?_) (by simp; omega), hr _ ?_, fun h => by omega⟩
          · refine ev_neg (by simp) (ev_neg (by omega) (ev_neg (by omega) ?_))
            by_cases c : l < 1
            · exact ev_pos c (Ev.now _)
            · exact ev_neg c (ev_pos (by omega) (Ev.now _))
          · exact ev_pos (by simp; omega) (ev_pos (by simp; omega) (ev_neg (by simp; omega) (Ev.now _)))
      · refine ⟨10, hc false _ (hj _ _ ?_) (by simp; omega), hr _ ?_, fun h => by omega⟩
        · refine ev_neg (by simp) ?_
          by_cases c : a < 0
          · exact ev_pos c (Ev.now _)
          · exact ev_neg c (ev_pos (by omega) (Ev.now _))
        · exact ev_pos (by simp; omega) (ev_neg (by simp; omega) (Ev.now _))
    · refine ⟨1, hc true _ (hj _ _ ?_) (by simp; omega), hr _ ?_, fun h => by omega⟩
      · exact ev_pos rfl (Ev.now _)
      · exact ev_neg (by simp; omega) (Ev.now _)
end Go.Proofs.Ytfeddgeihpfjfaa
