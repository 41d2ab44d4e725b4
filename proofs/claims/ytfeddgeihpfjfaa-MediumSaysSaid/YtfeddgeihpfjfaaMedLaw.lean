/- The law MediumSays, out of its printed walk. -/
import Derived.Test.YtfeddgeihpfjfaaPMed3
import Derived.Test.YtfeddgeihpfjfaaOpenTalks
set_option linter.unusedVariables false
set_option linter.unusedSimpArgs false
namespace Go.Proofs.Ytfeddgeihpfjfaa
open Go.RowKit Go.Proofs.YtfeddgeihpfjfaaW.PrintWords Go.Proofs.YtfeddgeihpfjfaaW.PrintLast Go.Proofs.YtfeddgeihpfjfaaW.PrintMore Go.Proofs.Ytfeddgeihpfjfaa.PMediumSays

theorem ints_C {B : Nat} {w : World} {A : Option Addr} {xs : List Int} (h : Ints B w A xs) : Kd.C (Kd.int .i64) w A xs.length xs := by
  have hr : ReadsInt w .i64 A xs.length xs := ⟨rfl, h.1, fun h0 => by
    obtain ⟨ad, e, _, hc⟩ := h.2.2 h0
    exact ⟨ad, e, hc⟩⟩
  exact Kd.C_of_reads (d := (0 : Int)) (h1 := fun _ => rfl) hr

def toS (t : TK) : S68 := ⟨t.f, t.a, t.l⟩

theorem talks_C {B : Nat} {w : World} {A : Option Addr} {ts : List TK} (h : Talks B w A ts) : Kd.C k68 w A (ts.map toS).length (ts.map toS) := by
  refine ⟨rfl, by simpa using h.1, fun h0 => ?_⟩
  obtain ⟨ad, e, _, hc⟩ := h.2.2 (by simpa using h0)
  refine ⟨ad, e, fun j p hj => ?_⟩
  have hl : j < ts.length := by
    have := (List.getElem?_eq_some_iff.1 hj).1
    simpa using this
  have hp : p = toS (ts.getD j default) := by
    rw [List.getElem?_map, List.getElem?_eq_getElem hl] at hj
    rw [List.getD_eq_getElem?_getD, List.getElem?_eq_getElem hl]
    exact (Option.some.inj hj).symm
  subst hp
  obtain ⟨h1, h2, h3⟩ := hc j hl
  refine ⟨_, rfl, k68_mk w _, fun i u hu => ?_⟩
  match i, hu with
  | 0, hu => simp only [List.getElem?_cons_zero, Option.some.injEq] at hu; subst hu; exact h1
  | 1, hu => simp only [List.getElem?_cons_succ, List.getElem?_cons_zero, Option.some.injEq] at hu; subst hu; show w.cell? (ad.add (j * 3 + 1)) = _; rw [add_field _ _ _ (by omega)]; exact h2
  | 2, hu => simp only [List.getElem?_cons_succ, List.getElem?_cons_zero, Option.some.injEq] at hu; subst hu; show w.cell? (ad.add (j * 3 + 2)) = _; rw [add_field _ _ _ (by omega)]; exact h3
  | i + 3, hu => simp at hu

theorem medium_law (w : World) (A0 : Option Addr) (c0 : Nat) (l0 : List Int) (h0 : Ints w.heap.size w A0 l0) (hc0 : l0.length ≤ c0) (_ : c0 ≤ maxLen) (p : TKS) (hp : p.ok w.heap.size w) (a : Int) (_ : I64 a) (t : Int) (_ : I64 t) :
    Calls Try.prog 7 #[.slice A0 l0.length c0, p.val, .int .i64 a, .int .i64 t] w fun e w' => e = .returned (.bool true) ∧ Below w.heap.size w w' := by
  obtain ⟨k, hk⟩ := medium_pure l0 (p.l.map toS) a t
  have h := patchbaylaw1_MediumSays.calls k A0 c0 l0 p.A p.cap (p.l.map toS) a t true w (ints_C h0) hc0 (talks_C hp.talks) (by simpa using hp.hcap) hk
  simpa only [List.length_map] using h
end Go.Proofs.Ytfeddgeihpfjfaa
