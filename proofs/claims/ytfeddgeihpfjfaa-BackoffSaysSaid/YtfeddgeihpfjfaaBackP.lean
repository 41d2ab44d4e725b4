/- The plain law of BackoffSays. -/
import Derived.Test.YtfeddgeihpfjfaaContP
import Derived.Test.YtfeddgeihpfjfaaContW
import Derived.Test.YtfeddgeihpfjfaaJBackoffSaysx3
set_option linter.unusedVariables false
set_option linter.unusedSimpArgs false
namespace Go.Proofs.Ytfeddgeihpfjfaa
open Go.RowKit Go.Proofs.YtfeddgeihpfjfaaW.PrintWords Go.Proofs.YtfeddgeihpfjfaaW.PrintLast Go.Proofs.YtfeddgeihpfjfaaW.PrintMore Go.Proofs.Ytfeddgeihpfjfaa.JBackoffSays

theorem ev_equal_l (xs : List Int) (hx : xs.length ≤ 1000000) (m : Nat) : ∀ i : Nat, i + m = xs.length → Ev (fun k => slices_Equal_int_int.l0 k xs xs xs.length i) true := by
  induction m with
  | zero =>
    intro i hi
    exact Ev.step (fun k => slices_Equal_int_int.l0.eq_2 ..) (ev_neg (by omega) (Ev.now _))
  | succ m ih =>
    intro i hi
    have h := ih (i + 1) (by omega)
    refine Ev.step (fun k => slices_Equal_int_int.l0.eq_2 ..) (ev_pos (by omega) (ev_pos (by omega) (ev_pos (by omega) (ev_pos (by omega) (ev_pos rfl ?_)))))
    rw [w64 (by omega) (by omega)]
    exact h
theorem ev_equal (xs : List Int) (hx : xs.length ≤ 1000000) : Ev (fun k => slices_Equal_int_int.f k xs xs) true :=
  ev_pos rfl (ev_equal_l xs hx xs.length 0 (by omega))
theorem wait_f (t d : Int) (h0 : 1 ≤ t) (h1 : t ≤ 16) : backoff_Wait.f t d = some (wt t d, 0) := by
  unfold backoff_Wait.f
  have e : mn t 10 = min t 10 := by unfold mn; split <;> omega
  rw [if_neg (by omega), if_neg (by omega), e, if_pos (by omega), wait_bits d _ (by omega)]
  rfl
theorem ev_j2 (n : Int) (ds : List Int) : Ev (fun k => patchbaylaw1_BackoffSays.j2 k n ds) true := by
  refine Ev.step (fun k => patchbaylaw1_BackoffSays.j2.eq_2 ..) ?_
  by_cases c0 : n < 0
  · refine ev_bind1 (if_pos c0) (ev_pos c0 ?_)
    exact Ev.step (fun k => patchbaylaw1_BackoffSays.j3.eq_2 ..) (ev_pos rfl (ev_pos rfl (Ev.now _)))
  · by_cases c1 : n > 16
    · refine ev_bind1 ((if_neg c0).trans (if_pos c1)) (ev_neg c0 ?_)
      rw [decide_eq_true c1]
      exact Ev.step (fun k => patchbaylaw1_BackoffSays.j3.eq_2 ..) (ev_pos rfl (ev_pos rfl (Ev.now _)))
    · by_cases c2 : (ds.length : Int) > 256
      · refine ev_bind1 ((if_neg c0).trans ((if_neg c1).trans (if_pos c2))) (ev_neg c0 ?_)
        rw [decide_eq_false c1]
        exact Ev.step (fun k => patchbaylaw1_BackoffSays.j3.eq_2 ..) (ev_neg (by decide) (ev_pos c2 (ev_pos rfl (Ev.now _))))
      · refine ev_bind1 ((if_neg c0).trans ((if_neg c1).trans (if_neg c2))) (ev_neg c0 ?_)
        rw [decide_eq_false c1]
        obtain ⟨m, rfl⟩ := Int.eq_ofNat_of_zero_le (show 0 ≤ n by omega)
        rw [Int.toNat_natCast]
        have hl := contended_len ds m (by omega)
        exact Ev.step (fun k => patchbaylaw1_BackoffSays.j3.eq_2 ..) (ev_neg (by decide) (ev_neg c2 (ev_pos rfl (Ev.bind (ev_contended ds m (by omega)) (Ev.bind (ev_equal _ (by show (contended ds m).length ≤ _; omega)) (Ev.now _))))))
theorem ev_backoff (t d n : Int) (ds : List Int) : Ev (fun k => patchbaylaw1_BackoffSays.f k t d n ds) true := by
  unfold patchbaylaw1_BackoffSays.f
  have h0 : backoff_Wait.f 2 7 = some (3, 0) := wait_f 2 7 (by omega) (by omega)
  refine ev_bind1 h0 (ev_pos rfl ?_)
  refine Ev.step (fun k => patchbaylaw1_BackoffSays.j0.eq_2 ..) (ev_neg (by decide) ?_)
  by_cases c0 : t < 1
  · refine ev_bind1 (if_pos c0) (ev_pos c0 ?_)
    exact Ev.step (fun k => patchbaylaw1_BackoffSays.j1.eq_2 ..) (ev_pos rfl (ev_pos rfl (ev_pos rfl (ev_j2 n ds))))
  · by_cases c1 : t > 16
    · refine ev_bind1 ((if_neg c0).trans (if_pos c1)) (ev_neg c0 ?_)
      rw [decide_eq_true c1]
      exact Ev.step (fun k => patchbaylaw1_BackoffSays.j1.eq_2 ..) (ev_pos rfl (ev_pos rfl (ev_pos rfl (ev_j2 n ds))))
    · refine ev_bind1 (wait_f t d (by omega) (by omega)) (ev_neg c0 ?_)
      rw [decide_eq_false c1]
      exact Ev.step (fun k => patchbaylaw1_BackoffSays.j1.eq_2 ..) (ev_neg (by decide) (ev_pos rfl (Ev.bind (ev_waits t d (by omega) (by omega)) (ev_pos rfl (ev_j2 n ds)))))
theorem backoff_pure : patchbaylaw1_BackoffSays.Pure := by
  intro t d n ds _ _ _ _ _ _
  exact (ev_backoff t d n ds).rounds
end Go.Proofs.Ytfeddgeihpfjfaa
