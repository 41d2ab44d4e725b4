/- Transmissions that came in, opened. -/
import Derived.Test.YtfeddgeihpfjfaaOpen
import Derived.Test.YtfeddgeihpfjfaaOpenTag
import Derived.Test.YtfeddgeihpfjfaaMed0
import Derived.Test.YtfeddgeihpfjfaaProg
import Derived.Deep.Slices
import Derived.Deep.Fields
import Derived.Lib.SmallJoins
set_option linter.unusedVariables false
namespace Go.Proofs.Ytfeddgeihpfjfaa
open Go.ChangeShapes Go.WideShapes Go.ChangeAt Go.RowKit Go.Deep

/-- What came in as []MediumTalk. -/
structure TKS where
  A : Option Addr
  l : List TK
  cap : Nat
abbrev TKS.val (p : TKS) : Value := .slice p.A p.l.length p.cap
structure TKS.ok (B : Nat) (w : World) (p : TKS) : Prop where
  talks : Talks B w p.A p.l
  hcap : p.l.length ≤ p.cap
  hmax : p.cap ≤ maxLen

section
variable {H : Type} {enc : TypeId × Value → H} {w : World}

set_option maxRecDepth 100000 in
theorem opened_talks {r : Reach} {b0 : Nat} {v : Value} {d : DataW H} {ps : List MemPlace} (hv : Value.okWide Try.prog w r b0 65 v) (h : DataW.Trod enc Try.prog w 0 (fun _ => true) true 65 v d ps) :
    ∃ p : TKS, v = p.val ∧ p.ok w.heap.size w := by
  have U := Try.underlying65
  obtain ⟨a0, l0, c0, rfl⟩ : ∃ a l c, v = .slice a l c := by obtain ⟨a, l, c, e⟩ := okWide_slice U hv; exact ⟨a, l, c, e⟩
  obtain ⟨fuel, hf⟩ := h
  rcases open_slice U hf with ⟨hcs, _⟩ | ⟨a, len, cap, m, n, D, Pl, hcs, _, hl, hm, hmm, hx, hi⟩
  · simp [Value.cells] at hcs
    obtain ⟨rfl, rfl, rfl⟩ := hcs
    exact ⟨⟨none, [], 0⟩, rfl, ⟨by simp, by simp, by simp⟩, by simp, by simp [maxLen]⟩
  · simp [Value.cells] at hcs
    obtain ⟨rfl, rfl, rfl⟩ := hcs
    have hC : Try.prog.cellsOf 68 = 3 := by kernel_rfl
    have k1 : Try.prog.cellsOf 3 = 1 := by kernel_rfl
    have hcell : ∀ i, i < l0 → ∃ t : TK, (I64 t.f ∧ I64 t.a ∧ I64 t.l) ∧ w.cell? (a.add (i * 3)) = some (.int .i64 t.f) ∧ w.cell? ((a.add (i * 3)).add 1) = some (.int .i64 t.a) ∧ w.cell? ((a.add (i * 3)).add 2) = some (.int .i64 t.l) := fun i hil => by
      have him : i < m := by simp only [if_true] at hmm; omega
      obtain ⟨cs', hc, ht'⟩ := hi i him
      rw [hC] at hc
      obtain ⟨xs, n', _, _, hlen, hyl, hx⟩ := DataW.trod_struct Try.underlying68 ht'
      obtain ⟨_, hcl, hat⟩ := World.cells?_some hc
      obtain ⟨x0, x1, x2, rfl⟩ : ∃ x0 x1 x2, cs' = [x0, x1, x2] := by
        match cs', hcl with
        | [x0, x1, x2], _ => exact ⟨x0, x1, x2, rfl⟩
      have hyl3 : xs.length = 3 := hyl
      have h0 : DataW.trod enc Try.prog w 0 (fun _ => true) true n' 3 [x0] = some xs[0] := by have z := hx 0 _ rfl; rw [List.getElem?_eq_getElem (by omega)] at z; simpa [k1] using z
      have h1 : DataW.trod enc Try.prog w 0 (fun _ => true) true n' 3 [x1] = some xs[1] := by have z := hx 1 _ rfl; rw [List.getElem?_eq_getElem (by omega)] at z; simpa [k1] using z
      have h2 : DataW.trod enc Try.prog w 0 (fun _ => true) true n' 3 [x2] = some xs[2] := by have z := hx 2 _ rfl; rw [List.getElem?_eq_getElem (by omega)] at z; simpa [k1] using z
      obtain ⟨a0, e0, _, w0⟩ := DataW.trod_int Try.underlying3 h0
      obtain rfl : x0 = .int .i64 a0 := by simpa using e0
      obtain ⟨a1, e1, _, w1⟩ := DataW.trod_int Try.underlying3 h1
      obtain rfl : x1 = .int .i64 a1 := by simpa using e1
      obtain ⟨a2, e2, _, w2⟩ := DataW.trod_int Try.underlying3 h2
      obtain rfl : x2 = .int .i64 a2 := by simpa using e2
      have g0 := hat 0 (by omega)
      rw [Addr.add_zero'] at g0
      exact ⟨⟨a0, a1, a2⟩, ⟨i64_of_wf w0, i64_of_wf w1, i64_of_wf w2⟩, g0, hat 1 (by omega), hat 2 (by omega)⟩
    obtain ⟨T, hT⟩ : ∃ T : Nat → TK, ∀ i, i < l0 → (I64 (T i).f ∧ I64 (T i).a ∧ I64 (T i).l) ∧ w.cell? (a.add (i * 3)) = some (.int .i64 (T i).f) ∧ w.cell? ((a.add (i * 3)).add 1) = some (.int .i64 (T i).a) ∧ w.cell? ((a.add (i * 3)).add 2) = some (.int .i64 (T i).l) :=
      ⟨fun i => if h : i < l0 then Classical.choose (hcell i h) else default, fun i h => by simp only [dif_pos h]; exact Classical.choose_spec (hcell i h)⟩
    have hlen : ((List.range l0).map T).length = l0 := by simp
    refine ⟨⟨some a, (List.range l0).map T, c0⟩, by simp [TKS.val], ⟨by rw [hlen]; unfold maxLen at hm; omega, fun t ht => ?_, fun h0 => ?_⟩, by rw [hlen]; exact hl, hm⟩
    · obtain ⟨i, hi, rfl⟩ := List.mem_map.1 ht
      exact (hT i (List.mem_range.1 hi)).1
    · rw [hlen] at h0
      refine ⟨a, rfl, ?_, fun j hj => ?_⟩
      · have := World.block_lt_of_cell? w _ (hT 0 h0).2.1
        rwa [add_block] at this
      · rw [hlen] at hj
        have hg : ((List.range l0).map T).getD j default = T j := by simp [List.getD_eq_getElem?_getD, hj]
        rw [hg]
        obtain ⟨_, g0, g1, g2⟩ := hT j hj
        exact ⟨g0, g1, g2⟩
end
end Go.Proofs.Ytfeddgeihpfjfaa
