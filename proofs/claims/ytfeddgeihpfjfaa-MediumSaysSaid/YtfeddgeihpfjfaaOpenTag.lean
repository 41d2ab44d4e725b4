/- Ports and frames that came in, opened. -/
import Derived.Test.YtfeddgeihpfjfaaOpen
import Derived.Test.YtfeddgeihpfjfaaProg
import Derived.Lib.SmallJoins
namespace Go.Proofs.Ytfeddgeihpfjfaa
open Go.ChangeShapes Go.WideShapes Go.ChangeAt Go.RowKit

/-- A port that came in. -/
structure TP where
  a : Int
  A : Option Addr
  l : List Int
  cap : Nat
abbrev TP.val (p : TP) : Value := .agg #[.int .i64 p.a, .slice p.A p.l.length p.cap]
structure TP.ok (B : Nat) (w : World) (p : TP) : Prop where
  ia : I64 p.a
  ints : Ints B w p.A p.l
  hcap : p.l.length ≤ p.cap
  hmax : p.cap ≤ maxLen

/-- A frame that came in. -/
structure FR where
  d : Int
  s : Int
  t : Int
  y : Int
  b : ByteArray
abbrev FR.val (f : FR) : Value := .agg #[.int .i64 f.d, .int .i64 f.s, .int .i64 f.t, .int .i64 f.y, .string f.b]
structure FR.ok (f : FR) : Prop where
  hd : I64 f.d
  hs : I64 f.s
  ht : I64 f.t
  hy : I64 f.y

section
variable {H : Type} {enc : TypeId × Value → H} {w : World}

theorem opened_ints1 {P : Program} {t e n : Nat} {v : Value} {y : DataW H × List MemPlace} (ht : P.underlying t = some (.slice e)) (he : P.underlying e = some (.int .i64)) (ce : P.cellsOf e = 1)
    (h : DataW.trod enc P w 0 (fun _ => true) true n t [v] = some y) : ∃ A xs cap, v = .slice A xs.length cap ∧ xs.length ≤ cap ∧ cap ≤ maxLen ∧ Ints w.heap.size w A xs := by
  obtain ⟨a, l, c, e1⟩ := Go.Joins.slice_form ht h
  obtain rfl : v = .slice a l c := by simpa using e1
  exact opened_ints ht he ce ⟨a, l, c, rfl⟩ ⟨n, by simpa [Value.cells] using h⟩

set_option maxRecDepth 100000 in
theorem opened_tport {r : Reach} {b0 : Nat} {v : Value} {d : DataW H} {ps : List MemPlace} (hv : Value.okWide Try.prog w r b0 81 v) (h : DataW.Trod enc Try.prog w 0 (fun _ => true) true 81 v d ps) :
    ∃ p : TP, v = p.val ∧ p.ok w.heap.size w := by
  obtain ⟨v0, v1, y0, y1, n, rfl, _, _, h0, h1⟩ := Go.Joins.open_agg2 Try.underlying81 (by kernel_rfl) (by kernel_rfl) hv h
  obtain ⟨a, e0, _, w0⟩ := DataW.trod_int Try.underlying3 h0
  obtain rfl : v0 = .int .i64 a := by simpa using e0
  obtain ⟨A, xs, cap, rfl, hc, hm, hi⟩ := opened_ints1 Try.underlying32 Try.underlying3 (by kernel_rfl) h1
  exact ⟨⟨a, A, xs, cap⟩, rfl, i64_of_wf w0, hi, hc, hm⟩

theorem array5 {α : Type} {cs : Array α} (h : cs.size = 5) : ∃ c0 c1 c2 c3 c4, cs = #[c0, c1, c2, c3, c4] := by
  obtain ⟨l⟩ := cs
  match l, h with
  | [c0, c1, c2, c3, c4], _ => exact ⟨c0, c1, c2, c3, c4, rfl⟩

set_option maxRecDepth 100000 in
theorem opened_frame {r : Reach} {b0 : Nat} {v : Value} {d : DataW H} {ps : List MemPlace} (hv : Value.okWide Try.prog w r b0 83 v) (h : DataW.Trod enc Try.prog w 0 (fun _ => true) true 83 v d ps) :
    ∃ f : FR, v = f.val ∧ f.ok := by
  obtain ⟨cs, rfl, hsz⟩ := okWide_struct Try.underlying83 hv
  obtain ⟨c0, c1, c2, c3, c4, rfl⟩ := array5 (hsz.trans (by kernel_rfl))
  obtain ⟨fuel, hf⟩ := h
  obtain ⟨xs, n, _, _, _, hl, hx⟩ := DataW.trod_struct Try.underlying83 hf
  have hl5 : xs.length = 5 := hl
  have k1 : Try.prog.cellsOf 3 = 1 := by kernel_rfl
  have k2 : Try.prog.cellsOf 9 = 1 := by kernel_rfl
  have h0 : DataW.trod enc Try.prog w 0 (fun _ => true) true n 3 [c0] = some xs[0] := by have z := hx 0 _ rfl; rw [List.getElem?_eq_getElem (by omega)] at z; simpa [Value.cells, k1] using z
  have h1 : DataW.trod enc Try.prog w 0 (fun _ => true) true n 3 [c1] = some xs[1] := by have z := hx 1 _ rfl; rw [List.getElem?_eq_getElem (by omega)] at z; simpa [Value.cells, k1] using z
  have h2 : DataW.trod enc Try.prog w 0 (fun _ => true) true n 3 [c2] = some xs[2] := by have z := hx 2 _ rfl; rw [List.getElem?_eq_getElem (by omega)] at z; simpa [Value.cells, k1] using z
  have h3 : DataW.trod enc Try.prog w 0 (fun _ => true) true n 3 [c3] = some xs[3] := by have z := hx 3 _ rfl; rw [List.getElem?_eq_getElem (by omega)] at z; simpa [Value.cells, k1] using z
  have h4 : DataW.trod enc Try.prog w 0 (fun _ => true) true n 9 [c4] = some xs[4] := by have z := hx 4 _ rfl; rw [List.getElem?_eq_getElem (by omega)] at z; simpa [Value.cells, k2] using z
  obtain ⟨a0, e0, _, w0⟩ := DataW.trod_int Try.underlying3 h0
  obtain rfl : c0 = .int .i64 a0 := by simpa using e0
  obtain ⟨a1, e1, _, w1⟩ := DataW.trod_int Try.underlying3 h1
  obtain rfl : c1 = .int .i64 a1 := by simpa using e1
  obtain ⟨a2, e2, _, w2⟩ := DataW.trod_int Try.underlying3 h2
  obtain rfl : c2 = .int .i64 a2 := by simpa using e2
  obtain ⟨a3, e3, _, w3⟩ := DataW.trod_int Try.underlying3 h3
  obtain rfl : c3 = .int .i64 a3 := by simpa using e3
  obtain ⟨s4, e4, _, _⟩ := DataW.trod_string Try.underlying9 h4
  obtain rfl : c4 = .string s4 := by simpa using e4
  exact ⟨⟨a0, a1, a2, a3, s4⟩, rfl, i64_of_wf w0, i64_of_wf w1, i64_of_wf w2, i64_of_wf w3⟩
end
end Go.Proofs.Ytfeddgeihpfjfaa
