/- What came in, opened: from the reading of an argument to what the walks ask for. -/
import Derived.Test.YtfeddgeihpfjfabMem
import Derived.ProofKit
import Derived.OpenShut
import Derived.ShutString
import Derived.Deep.Matrix
import Derived.SliceStrings
import Derived.SizedLaws
namespace Go.Proofs.Ytfeddgeihpfjfab
open Go.ChangeShapes Go.WideShapes Go.ChangeAt Go.RowKit
open Go.ChangeMaps (open_string shut_string)

theorem i64_of_wf {n : Int} (h : (Lit.int .i64 n).wf = true) : I64 n := by
  simp [Lit.wf] at h
  have h0 : IntKind.i64.min = -9223372036854775808 := rfl
  rw [h0] at h
  exact h

theorem u32_of_wf {n : Int} (h : (Lit.int .u32 n).wf = true) : U32 n := by
  simp [Lit.wf] at h
  have h0 : IntKind.u32.min = 0 := rfl
  have h1 : IntKind.u32.max = 4294967295 := rfl
  rw [h0] at h
  exact h

section
variable {H : Type} {enc : TypeId × Value → H} {P : Program} {w : World}

theorem add_block (a : Addr) (n : Nat) : (a.add n).block = a.block := by unfold Addr.add; split <;> rfl

theorem opened_rows2 {t e q : TypeId} {v : Value} {d : DataW H} {ps : List MemPlace} (ht : P.underlying t = some (.slice e)) (he : P.underlying e = some (.slice q)) (hq : P.underlying q = some (.int .i64))
    (ce : P.cellsOf e = 1) (cq : P.cellsOf q = 1) (hv : ∃ a l c, v = .slice a l c) (h : DataW.Trod enc P w 0 (fun _ => true) true t v d ps) :
    ∃ A ls cap, v = .slice A ls.length cap ∧ ls.length ≤ cap ∧ cap ≤ maxLen ∧ Rows2 w.heap.size w A ls := by
  obtain ⟨a0, l0, c0, rfl⟩ := hv
  obtain ⟨fuel, hf⟩ := h
  rcases Go.Deep.open_int_rows ht he hq ce cq hf with ⟨hcs, _⟩ | ⟨a, len, cap, A, L, C, Z, hcs, _, hl, hm, _, hr⟩
  · simp [Value.cells] at hcs
    obtain ⟨rfl, rfl, rfl⟩ := hcs
    exact ⟨none, [], 0, rfl, by simp, by simp [maxLen], by simp [Rows2]⟩
  · simp [Value.cells] at hcs
    obtain ⟨rfl, rfl, rfl⟩ := hcs
    have hlen : ((List.range l0).map fun r => (Z r).take (L r)).length = l0 := by simp
    refine ⟨some a, (List.range l0).map fun r => (Z r).take (L r), c0, by rw [hlen], by rw [hlen]; exact hl, hm, ?_, fun h0 => ?_⟩
    · rw [hlen]; unfold maxLen at hm; omega
    · rw [hlen] at h0
      refine ⟨a, rfl, ?_, fun j hj => ?_⟩
      · have := World.block_lt_of_cell? w _ (hr 0 (by omega)).1
        rwa [add_block] at this
      · rw [hlen] at hj
        obtain ⟨h1, h2, h3, h4, h5, h6, h7⟩ := hr j (by omega)
        have hg : ((List.range l0).map fun r => (Z r).take (L r)).getD j [] = (Z j).take (L j) := by simp [List.getD_eq_getElem?_getD, hj]
        have hz : ((Z j).take (L j)).length = L j := by simp; omega
        rw [hg]
        refine ⟨A j, C j, by rw [hz]; exact h1, ?_, fun x hx => ?_, fun h0 => ?_⟩
        · rw [hz]; unfold maxLen at h3; omega
        · exact i64_of_wf (h5 x (List.mem_of_mem_take hx))
        · rw [hz] at h0
          cases hA : A j with
          | none => have := h6 hA; omega
          | some a' =>
            obtain ⟨_, h8⟩ := h7 a' hA
            refine ⟨a', rfl, ?_, fun i hi => ?_⟩
            · have := World.block_lt_of_cell? w _ (h8 0 (by omega))
              rwa [add_block] at this
            · rw [hz] at hi
              rw [h8 i (by omega)]
              simp [List.getD_eq_getElem?_getD, hi]

theorem opened_ints {t e : TypeId} {v : Value} {d : DataW H} {ps : List MemPlace} (ht : P.underlying t = some (.slice e)) (he : P.underlying e = some (.int .i64)) (ce : P.cellsOf e = 1)
    (hv : ∃ a l c, v = .slice a l c) (h : DataW.Trod enc P w 0 (fun _ => true) true t v d ps) :
    ∃ A xs cap, v = .slice A xs.length cap ∧ xs.length ≤ cap ∧ cap ≤ maxLen ∧ Ints w.heap.size w A xs := by
  obtain ⟨a0, l0, c0, rfl⟩ := hv
  obtain ⟨fuel, hf⟩ := h
  rcases open_ints ht he ce hf with ⟨hcs, _⟩ | ⟨a, len, cap, zs, hcs, _, hl, hm, hz, _, hcell, hwz⟩
  · simp [Value.cells] at hcs
    obtain ⟨rfl, rfl, rfl⟩ := hcs
    exact ⟨none, [], 0, rfl, by simp, by simp [maxLen], by simp [Ints]⟩
  · simp [Value.cells] at hcs
    obtain ⟨rfl, rfl, rfl⟩ := hcs
    simp only [if_true] at hz
    have hlen : (zs.take l0).length = l0 := by simp; omega
    refine ⟨some a, zs.take l0, c0, by rw [hlen], by rw [hlen]; exact hl, hm, ?_, fun x hx => i64_of_wf (hwz x (List.mem_of_mem_take hx)), fun h0 => ?_⟩
    · rw [hlen]; unfold maxLen at hm; omega
    · rw [hlen] at h0
      refine ⟨a, rfl, ?_, fun j hj => ?_⟩
      · have := World.block_lt_of_cell? w _ (hcell 0 (by omega))
        rwa [add_block] at this
      · rw [hlen] at hj
        rw [hcell j (by omega)]
        simp [List.getD_eq_getElem?_getD, hj]

theorem opened_strs {t e : TypeId} {v : Value} {d : DataW H} {ps : List MemPlace} (ht : P.underlying t = some (.slice e)) (he : P.underlying e = some .string) (ce : P.cellsOf e = 1)
    (hv : ∃ a l c, v = .slice a l c) (h : DataW.Trod enc P w 0 (fun _ => true) true t v d ps) :
    ∃ A xs cap, v = .slice A xs.length cap ∧ xs.length ≤ cap ∧ cap ≤ maxLen ∧ Strs w.heap.size w A xs := by
  obtain ⟨a0, l0, c0, rfl⟩ := hv
  obtain ⟨fuel, hf⟩ := h
  rcases open_strings ht he ce hf with ⟨hcs, _⟩ | ⟨a, len, cap, zs, hcs, _, hl, hm, hz, _, hcell, hwz⟩
  · simp [Value.cells] at hcs
    obtain ⟨rfl, rfl, rfl⟩ := hcs
    exact ⟨none, [], 0, rfl, by simp, by simp [maxLen], by simp [Strs]⟩
  · simp [Value.cells] at hcs
    obtain ⟨rfl, rfl, rfl⟩ := hcs
    simp only [if_true] at hz
    have hlen : (zs.take l0).length = l0 := by simp; omega
    refine ⟨some a, zs.take l0, c0, by rw [hlen], by rw [hlen]; exact hl, hm, ?_, fun x hx => ?_, fun h0 => ?_⟩
    · rw [hlen]; unfold maxLen at hm; omega
    · have := hwz x (List.mem_of_mem_take hx); unfold maxLen at this; omega
    · rw [hlen] at h0
      refine ⟨a, rfl, ?_, fun j hj => ?_⟩
      · have := World.block_lt_of_cell? w _ (hcell 0 (by omega))
        rwa [add_block] at this
      · rw [hlen] at hj
        rw [hcell j (by omega)]
        simp [List.getD_eq_getElem?_getD, hj]
end
end Go.Proofs.Ytfeddgeihpfjfab
