/- Frames of the heap: what a call may have changed. -/
import Derived.WalkKit
import Derived.Below
import Derived.Deep.Draws
import Derived.Deep.DeepCutAuto
import Derived.Deep.LoopGhost
import Derived.Deep.CutBlock
namespace Go.Proofs.Ytfeddgeihpfjfab
open Go.RowKit

/-- Block g holds these cells. -/
def Blk (w : World) (g : Nat) (cs : Array Value) (T : TypeId) : Prop := w.heap[g]? = some (.cells cs T (0, 0))

/-- Whatever is not in S is as it was; nothing is gone. -/
structure Fr (S : Nat → Prop) (w w' : World) : Prop where
  os : w'.os = w.os
  tape : w'.tape = w.tape
  output : w'.output = w.output
  size : w.heap.size ≤ w'.heap.size
  block : ∀ k, k < w.heap.size → ¬ S k → w'.heap[k]? = w.heap[k]?

namespace Blk
variable {w : World} {g : Nat} {cs : Array Value} {T : TypeId}
theorem lt (h : Blk w g cs T) : g < w.heap.size := lt_of_block h
theorem cell (h : Blk w g cs T) (i : Nat) {v : Value} (hv : cs[i]? = some v) : w.cell? ⟨g, i, none⟩ = some v := by
  unfold Blk at h; simp [World.cell?, h, hv]
theorem free (h : Blk w g cs T) (i : Nat) : w.frozen? ⟨g, i, none⟩ = false := by
  unfold Blk at h; simp [World.frozen?, h]
theorem set (h : Blk w g cs T) (i : Nat) (v : Value) : Blk (w.setCell ⟨g, i, none⟩ v) g (cs.setIfInBounds i v) T := by
  unfold Blk at *
  have hlt := lt_of_block h
  have h' : w.heap[g] = .cells cs T (0, 0) := by simpa [Array.getElem?_eq_getElem hlt] using h
  show (w.heap.modify g _)[g]? = _
  rw [Array.getElem?_eq_getElem (by simpa using hlt), Array.getElem_modify_self, h']
  rfl
theorem other (h : Blk w g cs T) {a : Addr} (ha : g ≠ a.block) (v : Value) : Blk (w.setCell a v) g cs T := by
  unfold Blk at *
  rw [Below.heap_setCell _ _ _ _ ha]; exact h
theorem alloc (h : Blk w g cs T) (o : Obj) : Blk (w.alloc o) g cs T := by
  have hlt := h.lt
  unfold Blk at *
  rw [Below.heap_alloc _ _ _ hlt]; exact h
theorem drewN (h : Blk w g cs T) (n : Nat) : Blk (w.drewN n) g cs T := h
theorem new (w : World) (cs : Array Value) (T : TypeId) : Blk (w.alloc (.cells cs T)) w.heap.size cs T := (MapKept.heap_alloc w _).1
end Blk

namespace Fr
variable {S S' : Nat → Prop} {w w1 w2 : World}
theorem refl (S : Nat → Prop) (w : World) : Fr S w w := ⟨rfl, rfl, rfl, Nat.le_refl _, fun _ _ _ => rfl⟩
theorem trans (h : Fr S w w1) (k : Fr S w1 w2) : Fr S w w2 :=
  ⟨k.os.trans h.os, k.tape.trans h.tape, k.output.trans h.output, Nat.le_trans h.size k.size, fun i hi hs => (k.block i (Nat.lt_of_lt_of_le hi h.size) hs).trans (h.block i hi hs)⟩
theorem mono (h : Fr S w w1) (hS : ∀ k, k < w.heap.size → S k → S' k) : Fr S' w w1 := ⟨h.os, h.tape, h.output, h.size, fun k hk hn => h.block k hk (fun hs => hn (hS k hk hs))⟩
theorem drewN (h : Fr S w w1) (n : Nat) : Fr S w (w1.drewN n) := ⟨h.os, h.tape, h.output, h.size, h.block⟩
theorem drew (h : Fr S w w1) : Fr S w w1.drew := ⟨h.os, h.tape, h.output, h.size, h.block⟩
theorem alloc (h : Fr S w w1) (o : Obj) : Fr S w (w1.alloc o) :=
  h.trans ⟨rfl, rfl, rfl, by simp, fun k hk _ => Below.heap_alloc _ _ _ hk⟩
theorem setCell (h : Fr S w w1) {a : Addr} (ha : S a.block) (v : Value) : Fr S w (w1.setCell a v) :=
  h.trans ⟨rfl, rfl, rfl, by simp [World.setCell], fun k _ hn => Below.heap_setCell _ _ _ _ (fun e => hn (e ▸ ha))⟩
theorem set1 {g : Nat} (h : Fr (· = g) w w1) (i : Nat) (v : Value) : Fr (· = g) w (w1.setCell ⟨g, i, none⟩ v) := h.setCell (a := ⟨g, i, none⟩) rfl v
/-- A store into a block that is new since w. -/
theorem setNew (h : Fr S w w1) {a : Addr} (ha : w.heap.size ≤ a.block) (v : Value) : Fr S w (w1.setCell a v) :=
  ⟨h.os, h.tape, h.output, by simpa [World.setCell] using h.size, fun k hk hn => (Below.heap_setCell _ _ _ _ (by omega)).trans (h.block k hk hn)⟩
theorem blk (h : Fr S w w1) {g : Nat} {cs : Array Value} {T : TypeId} (hb : Blk w g cs T) (hn : ¬ S g) : Blk w1 g cs T := (h.block g hb.lt hn).trans hb
theorem cell (h : Fr S w w1) {p : Addr} (hp : p.block < w.heap.size) (hn : ¬ S p.block) : w1.cell? p = w.cell? p := World.cell?_of_block (w := w) (h.block p.block hp hn)
theorem frozen (h : Fr S w w1) {p : Addr} (hp : p.block < w.heap.size) (hn : ¬ S p.block) : w1.frozen? p = w.frozen? p := World.frozen?_of_block (w := w) (h.block p.block hp hn)
theorem below {B : Nat} (h : Fr S w w1) (hB : B ≤ w.heap.size) (hS : ∀ k, S k → B ≤ k) : Below B w w1 :=
  ⟨h.os, h.tape, h.output, h.size, fun k hk => h.block k (by omega) (fun hs => by have := hS k hs; omega)⟩
theorem of_below (h : Below w.heap.size w w1) : Fr S w w1 := ⟨h.os, h.tape, h.output, h.size, fun k hk _ => h.block k hk⟩
theorem of_drawn (h : ∃ n, w1 = w.drewN n) : Fr S w w1 := by obtain ⟨n, rfl⟩ := h; exact (refl S w).drewN n
end Fr
theorem blk_below {w w1 : World} {g : Nat} {cs : Array Value} {T : TypeId} (h : Below w.heap.size w w1) (hb : Blk w g cs T) : Blk w1 g cs T := (h.block g hb.lt).trans hb
/-- Behind a contract that ends in 'Below': the old cells and marks as rules for the walk. -/
theorem bcell {W w1 : World} (hb : Below W.heap.size W w1) : (∀ b o, b < W.heap.size → w1.cell? ⟨b, o, none⟩ = W.cell? ⟨b, o, none⟩) ∧ (∀ b o, b < W.heap.size → w1.frozen? ⟨b, o, none⟩ = W.frozen? ⟨b, o, none⟩) :=
  ⟨fun b o h => hb.cell (p := ⟨b, o, none⟩) h, fun b o h => hb.frozen (p := ⟨b, o, none⟩) h⟩
theorem below_of_drew {B : Nat} {w w' : World} (h : Below B w.drew w') : Below B w w' := ⟨h.os, h.tape, h.output, h.size, h.block⟩
theorem below_of_alloc {w w' : World} {o : Obj} (h : Below (w.heap.size + 1) (w.alloc o) w') : Below w.heap.size w w' :=
  ((Below.refl w.heap.size w).alloc (Nat.le_refl _) o).trans (h.mono (Nat.le_add_right _ _))
theorem below_of_alloc' {w w' : World} {o : Obj} (h : Below (w.alloc o).heap.size (w.alloc o) w') : Below w.heap.size w w' := below_of_alloc (by simpa using h)
theorem below_of_drewN {B : Nat} {w w' : World} {n : Nat} (h : Below B (w.drewN n) w') : Below B w w' := ⟨h.os, h.tape, h.output, h.size, h.block⟩
theorem below_drewN {B : Nat} {w w1 : World} (h : Below B w w1) (n : Nat) : Below B w (w1.drewN n) := ⟨h.os, h.tape, h.output, h.size, h.block⟩
theorem below_fr {B : Nat} {S : Nat → Prop} {w w1 w2 : World} (h : Below B w w1) (k : Fr S w1 w2) (hB : B ≤ w1.heap.size) (hS : ∀ k, S k → B ≤ k) : Below B w w2 := h.trans (k.below hB hS)

/-- min and max of two whole numbers, unsplit. -/
theorem min_ints (ats : Array TypeId) (ty : TypeId) (k k' : IntKind) (x y : Int) : Builtin.min_ ats ty #[.int k x, .int k' y] = pure (.int k (min x y)) := by
  simp only [Builtin.min_, List.foldlM_cons, List.foldlM_nil, Builtin.min2]
  show ((pure _ : Sem Value) >>= fun s => pure s) = _
  have e : (if y < x then y else x) = min x y := by rw [Int.min_def]; split <;> split <;> omega
  rw [e]; rfl
theorem max_ints (ats : Array TypeId) (ty : TypeId) (k k' : IntKind) (x y : Int) : Builtin.max_ ats ty #[.int k x, .int k' y] = pure (.int k (max x y)) := by
  simp only [Builtin.max_, List.foldlM_cons, List.foldlM_nil, Builtin.max2, gt_iff_lt]
  show ((pure _ : Sem Value) >>= fun s => pure s) = _
  have e : (if x < y then y else x) = max x y := by rw [Int.max_def]; split <;> split <;> omega
  rw [e]; rfl

/-- A number of kind int. (A plain name: the walk doesn't look into it.) -/
def I64 (x : Int) : Prop := -9223372036854775808 ≤ x ∧ x ≤ 9223372036854775807

/-- A number of kind uint32. -/
def U32 (x : Int) : Prop := 0 ≤ x ∧ x ≤ 4294967295

/-- The slice at A reads as xs, below block number B. -/
def Ints (B : Nat) (w : World) (A : Option Addr) (xs : List Int) : Prop :=
  xs.length ≤ 9223372036854775807 ∧ (∀ x ∈ xs, I64 x) ∧ (0 < xs.length → ∃ ad, A = some ad ∧ ad.block < B ∧ ∀ j, j < xs.length → w.cell? (ad.add j) = some (.int .i64 (xs.getD j 0)))

theorem Ints.below {B : Nat} {w w' : World} {A : Option Addr} {xs : List Int} (h : Ints B w A xs) (hb : Below B w w') : Ints B w' A xs := by
  refine ⟨h.1, h.2.1, fun h0 => ?_⟩
  obtain ⟨ad, e, hB, hc⟩ := h.2.2 h0
  refine ⟨ad, e, hB, fun j hj => ?_⟩
  rw [hb.cell (by rw [Addr.add]; split <;> simpa using hB)]
  exact hc j hj

theorem wrap_u64 (n : Int) : IntKind.u64.wrap n = n % 18446744073709551616 := by simp [IntKind.wrap, IntKind.bits, IntKind.signed]
/-- int(uint(i) % uint(n)) -/
def uidx (i : Int) (n : Nat) : Nat := (i % 18446744073709551616 % (n : Int)).toNat
theorem uidx_lt (i : Int) {n : Nat} (h : 0 < n) : uidx i n < n := by
  unfold uidx
  have h1 := Int.emod_lt_of_pos (i % 18446744073709551616) (show (0 : Int) < n by omega)
  have h0 := Int.emod_nonneg (i % 18446744073709551616) (show (n : Int) ≠ 0 by omega)
  omega
theorem uidx_eq (i : Int) {n : Nat} (h : 0 < n) (hn : n ≤ 9223372036854775807) : wrap64 ((IntKind.u64.wrap i).tmod (n : Int)) = (uidx i n : Int) := by
  have h2 := uidx_lt i h
  have h3 : (IntKind.u64.wrap i).tmod (n : Int) = (uidx i n : Int) := by
    rw [wrap_u64, Int.tmod_eq_emod_of_nonneg (by omega)]
    unfold uidx
    have h0 := Int.emod_nonneg (i % 18446744073709551616) (show (n : Int) ≠ 0 by omega)
    omega
  rw [h3]; unfold wrap64; omega

/-- A slice of strings, below block number B. -/
def Strs (B : Nat) (w : World) (A : Option Addr) (ls : List ByteArray) : Prop :=
  ls.length ≤ 9223372036854775807 ∧ (∀ s ∈ ls, s.size ≤ 9223372036854775807) ∧ (0 < ls.length → ∃ ad, A = some ad ∧ ad.block < B ∧ ∀ j, j < ls.length → w.cell? (ad.add j) = some (.string (ls.getD j ByteArray.empty)))

theorem Strs.below {B : Nat} {w w' : World} {A : Option Addr} {ls : List ByteArray} (h : Strs B w A ls) (hb : Below B w w') : Strs B w' A ls := by
  refine ⟨h.1, h.2.1, fun h0 => ?_⟩
  obtain ⟨ad, e, hB, hc⟩ := h.2.2 h0
  refine ⟨ad, e, hB, fun j hj => ?_⟩
  rw [hb.cell (by rw [Addr.add]; split <;> simpa using hB)]
  exact hc j hj

/-- A slice of slices of numbers, below block number B. -/
def Rows2 (B : Nat) (w : World) (A : Option Addr) (ls : List (List Int)) : Prop :=
  ls.length ≤ 9223372036854775807 ∧ (0 < ls.length → ∃ ad, A = some ad ∧ ad.block < B ∧ ∀ j, j < ls.length → ∃ A' c', w.cell? (ad.add j) = some (.slice A' (ls.getD j []).length c') ∧ Ints B w A' (ls.getD j []))

theorem Rows2.below {B : Nat} {w w' : World} {A : Option Addr} {ls : List (List Int)} (h : Rows2 B w A ls) (hb : Below B w w') : Rows2 B w' A ls := by
  refine ⟨h.1, fun h0 => ?_⟩
  obtain ⟨ad, e, hB, hc⟩ := h.2 h0
  refine ⟨ad, e, hB, fun j hj => ?_⟩
  obtain ⟨A', c', h1, h2⟩ := hc j hj
  refine ⟨A', c', ?_, h2.below hb⟩
  rw [hb.cell (by rw [Addr.add]; split <;> simpa using hB)]
  exact h1

/-- A callee that leaves the world alone, in a region that draws its order. -/
theorem quiet_eq {P : Program} {f : FuncId} {args : Array Value} {w : World} {n : Nat} {v : Value}
    (h : Calls P f args (w.drewN n) fun e w' => e = .returned v ∧ w.drewN n = w') : Calls P f args (w.drewN n) fun e w'' => e = .returned v ∧ ∃ m, w'' = w.drewN m :=
  h.mono fun _ _ ⟨he, hm⟩ => ⟨he, n, hm.symm⟩

theorem results_tmp4 {fn : Func} {t u v x : Tmp} (h : fn.results = #[.tmp t, .tmp u, .tmp v, .tmp x]) (tmps : Array Value) (P : Program) (w : World) :
    (results fn tmps).run P w = .ok (.tuple #[tmps.getD t undef, tmps.getD u undef, tmps.getD v undef, tmps.getD x undef]) w := by
  simp [results, h]

/-- An element of an array that is a value: elements of one cell. -/
theorem run_index_agg {P : Program} (w : World) (t e n : Nat) (cs : Array Value) (i : Nat) (v : Value) {d : TypeDesc} (h : P.underlying t = some (.array n e)) (he : P.underlying e = some d)
    (hd : (match d with | .struct _ | .array _ _ => true | _ => false) = false) (hs : (P.info? e).map (·.size) = some 1) (hi : i < n) (hv : cs[i]? = some v) :
    (Instr.index t (.agg cs) (.int .i64 i)).run P w = .ok v w := by
  cases hq : P.info? e with
  | none => simp [hq] at hs
  | some inf =>
    have hsz : inf.size = 1 := by simpa [hq] using hs
    have hagg : (isAgg e).run P w = .ok false w := by
      unfold isAgg
      rw [Sem.run_bind, run_underlying he w]
      cases d <;> simp_all
    have h0 : (0 : Int) ≤ (i : Int) ∧ (i : Int) < (n : Int) := ⟨by omega, by omega⟩
    simp [Instr.index, asIntOf, run_underlying h, h0, sizeOf, typeInfo, hq, hsz, part, hagg, hv, hi]
end Go.Proofs.Ytfeddgeihpfjfab
