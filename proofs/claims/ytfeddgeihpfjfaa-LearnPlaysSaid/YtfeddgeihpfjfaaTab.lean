/- A table of sightings in memory: the table's block, and the row of what it holds. -/
import Derived.Test.YtfeddgeihpfjfaaProg
import Derived.Test.YtfeddgeihpfjfaaLearnP
import Derived.Test.YtfeddgeihpfjfaaSl
import Derived.Test.YtfeddgeihpfjfaaPk
set_option linter.unusedVariables false
set_option linter.unusedSimpArgs false
namespace Go.Proofs.Ytfeddgeihpfjfaa
open Go.RowKit Go.Proofs.YtfeddgeihpfjfaaW.PrintWords

def cellsE (es : List Ent) : List Value := es.flatMap fun x => [.int .i64 x.l, .int .i64 x.p, .int .i64 x.s]
theorem cellsE_len (es : List Ent) : (cellsE es).length = es.length * 3 := by
  unfold cellsE
  induction es with
  | nil => rfl
  | cons x xs ih => rw [List.flatMap_cons, List.length_append, ih]; simp; omega
theorem cellsE_cons (x : Ent) (es : List Ent) : cellsE (x :: es) = .int .i64 x.l :: .int .i64 x.p :: .int .i64 x.s :: cellsE es := rfl
theorem cellsE_app (xs ys : List Ent) : cellsE (xs ++ ys) = cellsE xs ++ cellsE ys := by unfold cellsE; rw [List.flatMap_append]
theorem cellsE_get : ∀ (es : List Ent) (j : Nat), j < es.length → (cellsE es)[j * 3]? = some (.int .i64 (es.getD j default).l) ∧ (cellsE es)[j * 3 + 1]? = some (.int .i64 (es.getD j default).p) ∧ (cellsE es)[j * 3 + 2]? = some (.int .i64 (es.getD j default).s)
  | [], j, h => absurd h (by simp)
  | x :: xs, 0, _ => ⟨rfl, rfl, rfl⟩
  | x :: xs, j + 1, h => by
    have := cellsE_get xs j (by simpa using h)
    rw [cellsE_cons]
    rw [show (j + 1) * 3 = j * 3 + 1 + 1 + 1 by omega]
    exact this
theorem cellsE_drop (es : List Ent) (k : Nat) : (cellsE es).drop (k * 3) = cellsE (es.drop k) := by
  induction es generalizing k with
  | nil => simp [cellsE]
  | cons x xs ih =>
    cases k with
    | zero => rfl
    | succ k => rw [cellsE_cons, show (k + 1) * 3 = k * 3 + 1 + 1 + 1 by omega]; exact ih k
theorem cellsE_take (es : List Ent) (k : Nat) : (cellsE es).take (k * 3) = cellsE (es.take k) := by
  induction es generalizing k with
  | nil => simp [cellsE]
  | cons x xs ih =>
    cases k with
    | zero => simp [cellsE]
    | succ k => rw [cellsE_cons, show (k + 1) * 3 = k * 3 + 1 + 1 + 1 by omega]; simp only [List.take_succ_cons]; rw [ih k, cellsE_cons]
theorem cellsE_one (es : List Ent) : ∀ u ∈ cellsE es, u.oneCell' = true := by
  intro u hu
  obtain ⟨x, _, hx⟩ := List.mem_flatMap.1 hu
  simp only [List.mem_cons, List.not_mem_nil, or_false] at hx
  rcases hx with rfl | rfl | rfl <;> rfl

/-- The row at A reads as these sightings. -/
def Ents (W : World) (TE : TypeId) (A : Option Addr) (es : List Ent) : Prop :=
  0 < es.length → ∃ h o cells, A = some ⟨h, o, none⟩ ∧ Blk W h cells TE ∧ ∀ j, j < es.length → cells[o + j * 3]? = some (.int .i64 (es.getD j default).l) ∧ cells[o + j * 3 + 1]? = some (.int .i64 (es.getD j default).p) ∧ cells[o + j * 3 + 2]? = some (.int .i64 (es.getD j default).s)
theorem Ents.of_own {W : World} {base : Nat} {TE : TypeId} {A : Option Addr} {c : Nat} {es : List Ent} (h : OwnAt W base TE 3 (.slice A es.length c) es.length (cellsE es)) : Ents W TE A es := by
  intro h0
  rcases h.2 with ⟨he, hn⟩ | ⟨g, o, cap, cur, he, hb, hg, h1, h2, h3, h4⟩
  · omega
  · injection he with he1 he2 he3
    subst he1
    refine ⟨g, o, cur, rfl, hg, fun j hj => ?_⟩
    obtain ⟨e0, e1, e2⟩ := cellsE_get es j hj
    rw [← h4] at e0 e1 e2
    have key : ∀ i v, ((cur.toList.drop o).take (es.length * 3))[i]? = some v → cur[o + i]? = some v := by
      intro i v hv
      rw [List.getElem?_take] at hv
      split at hv
      · simpa using hv
      · cases hv
    exact ⟨key _ _ e0, by have := key _ _ e1; rwa [← Nat.add_assoc] at this, by have := key _ _ e2; rwa [← Nat.add_assoc] at this⟩
theorem Ents.cells {W : World} {TE : TypeId} {h o : Nat} {es : List Ent} (H : Ents W TE (some ⟨h, o, none⟩) es) {j : Nat} (hj : j < es.length) :
    W.cell? ⟨h, o + j * 3, none⟩ = some (.int .i64 (es.getD j default).l) ∧ W.cell? ⟨h, o + j * 3 + 1, none⟩ = some (.int .i64 (es.getD j default).p) ∧ W.cell? ⟨h, o + j * 3 + 2, none⟩ = some (.int .i64 (es.getD j default).s) := by
  obtain ⟨h', o', cells, he, hb, hc⟩ := H (by omega)
  injection he with he
  injection he with e1 e2
  subst e1; subst e2
  obtain ⟨c0, c1, c2⟩ := hc j hj
  exact ⟨hb.cell _ c0, hb.cell _ c1, hb.cell _ c2⟩
theorem Ents.addr {W : World} {TE : TypeId} {A : Option Addr} {es : List Ent} (H : Ents W TE A es) (h0 : 0 < es.length) : ∃ h o, A = some ⟨h, o, none⟩ ∧ h < W.heap.size ∧ ∃ cells, Blk W h cells TE := by
  obtain ⟨h', o', cells, he, hb, hc⟩ := H h0
  exact ⟨h', o', he, hb.lt, cells, hb⟩
/-- What comes behind the first k. -/
theorem Ents.drop {W : World} {TE : TypeId} {h o : Nat} {es : List Ent} (H : Ents W TE (some ⟨h, o, none⟩) es) (k : Nat) : Ents W TE (some ⟨h, o + k * 3, none⟩) (es.drop k) := by
  intro h0
  rw [List.length_drop] at h0
  obtain ⟨h', o', cells, he, hb, hc⟩ := H (by omega)
  injection he with he
  injection he with e1 e2
  subst e1; subst e2
  refine ⟨h, _, cells, rfl, hb, fun j hj => ?_⟩
  rw [List.length_drop] at hj
  obtain ⟨c0, c1, c2⟩ := hc (k + j) (by omega)
  have e : (es.drop k).getD j default = es.getD (k + j) default := by
    rw [List.getD_eq_getElem?_getD, List.getD_eq_getElem?_getD, List.getElem?_drop]
  rw [e, show o + k * 3 + j * 3 = o + (k + j) * 3 by omega]
  exact ⟨c0, c1, c2⟩
theorem Ents.below {B : Nat} {W W1 : World} {TE : TypeId} {A : Option Addr} {es : List Ent} (H : Ents W TE A es) (hb : Below B W W1) (hB : W.heap.size ≤ B) : Ents W1 TE A es := by
  intro h0
  obtain ⟨h', o', cells, he, hk, hc⟩ := H h0
  refine ⟨h', o', cells, he, ?_, hc⟩
  have hlt := hk.lt
  unfold Blk at *
  rw [hb.block h' (by omega)]; exact hk
theorem Ents.fr {S : Nat → Prop} {W W1 : World} {TE : TypeId} {A : Option Addr} {es : List Ent} (H : Ents W TE A es) (f : Fr S W W1) (hS : ∀ k, S k → ∀ cells, ¬ Blk W k cells TE) : Ents W1 TE A es := by
  intro h0
  obtain ⟨h', o', cells, he, hk, hc⟩ := H h0
  exact ⟨h', o', cells, he, f.blk hk (fun hs => hS h' hs cells hk), hc⟩
theorem Blk.type {W : World} {g : Nat} {cs cs' : Array Value} {T T' : TypeId} (h : Blk W g cs T) (h' : Blk W g cs' T') : T = T' := by
  unfold Blk at *
  rw [h] at h'
  injection h' with h'
  injection h' with _ h'

theorem blkB {B : Nat} {W W1 : World} {g : Nat} {cs : Array Value} {T : TypeId} (h : Below B W W1) (hg : g < B) (hb : Blk W g cs T) : Blk W1 g cs T := (h.block g hg).trans hb
/-- The table at g. -/
def Tab (W : World) (g : Nat) (TS TE : TypeId) (age room last : Int) (es : List Ent) : Prop :=
  ∃ A c, es.length ≤ c ∧ c ≤ maxLen ∧ Blk W g #[.int .i64 age, .int .i64 room, .int .i64 last, .slice A es.length c] TS ∧ Ents W TE A es
theorem Tab.fr {S : Nat → Prop} {W W1 : World} {g : Nat} {TS TE : TypeId} {age room last : Int} {es : List Ent} (H : Tab W g TS TE age room last es) (f : Fr S W W1) (hg : ¬ S g) (hS : ∀ k, S k → ∀ cells, ¬ Blk W k cells TE) : Tab W1 g TS TE age room last es := by
  obtain ⟨A, c, h1, h2, hb, he⟩ := H
  exact ⟨A, c, h1, h2, f.blk hb hg, he.fr f hS⟩
theorem Tab.below {W W1 : World} {g : Nat} {TS TE : TypeId} {age room last : Int} {es : List Ent} (H : Tab W g TS TE age room last es) (hb : Below W.heap.size W W1) : Tab W1 g TS TE age room last es := by
  obtain ⟨A, c, h1, h2, hk, he⟩ := H
  exact ⟨A, c, h1, h2, blk_below hb hk, he.below hb (Nat.le_refl _)⟩
/-- The table at g, its row the call's own. -/
def TabN (W : World) (B : Nat) (g : Nat) (TS TE : TypeId) (age room last : Int) (es : List Ent) : Prop :=
  ∃ A c, Blk W g #[.int .i64 age, .int .i64 room, .int .i64 last, .slice A es.length c] TS ∧ OwnAt W B TE 3 (.slice A es.length c) es.length (cellsE es)
theorem TabN.tab {W : World} {B g : Nat} {TS TE : TypeId} {age room last : Int} {es : List Ent} (H : TabN W B g TS TE age room last es) : Tab W g TS TE age room last es := by
  obtain ⟨A, c, hb, ho⟩ := H
  obtain ⟨A', c', he, h1, h2⟩ := ho.slice
  injection he with e1 e2 e3
  subst e1; subst e3
  exact ⟨A, c, h1, h2, hb, Ents.of_own ho⟩
/-- A new row is put into the table. -/
theorem tab_put {w W : World} {g : Nat} {TS TE : TypeId} {age room last : Int} {A A0 : Option Addr} {c n0 c0 : Nat} {es : List Ent} (hb : Blk W g #[.int .i64 age, .int .i64 room, .int .i64 last, .slice A0 n0 c0] TS) (ho : OwnAt W w.heap.size TE 3 (.slice A es.length c) es.length (cellsE es)) (hg : g < w.heap.size) :
    TabN (W.setCell ⟨g, 3, none⟩ (.slice A es.length c)) w.heap.size g TS TE age room last es := by
  refine ⟨A, c, by have h := hb.set 3 (.slice A es.length c); exact h, ?_⟩
  refine ⟨ho.1, ?_⟩
  rcases ho.2 with h | ⟨g', o, cap, cur, he, hb', hgg, rest⟩
  · exact .inl h
  · exact .inr ⟨g', o, cap, cur, he, hb', hgg.other (by show g' ≠ g; omega) _, rest⟩
/-- Whatever came between is below, but for the table's own block. -/
theorem fr_put {w W0 W : World} {g : Nat} (h0 : Fr (· = g) w W0) (hb : Below w.heap.size W0 W) (i : Nat) (v : Value) : Fr (· = g) w (W.setCell ⟨g, i, none⟩ v) := by
  refine Fr.set1 ?_ i v
  exact ⟨hb.os.trans h0.os, hb.tape.trans h0.tape, hb.output.trans h0.output, Nat.le_trans h0.size hb.size, fun k hk hn => (hb.block k hk).trans (h0.block k hk hn)⟩
theorem fr_below {w W0 W : World} {g : Nat} (h0 : Fr (· = g) w W0) (hb : Below w.heap.size W0 W) : Fr (· = g) w W :=
  ⟨hb.os.trans h0.os, hb.tape.trans h0.tape, hb.output.trans h0.output, Nat.le_trans h0.size hb.size, fun k hk hn => (hb.block k hk).trans (h0.block k hk hn)⟩
theorem src_new {P : Program} (W : World) {t TE e' : TypeId} (ht : P.underlying t = some (.slice e')) (x : Ent) : Src P 3 t (.slice (some ⟨W.heap.size, 0, none⟩) 1 1) 1 (cellsE [x]) (W.alloc (.cells #[.int .i64 x.l, .int .i64 x.p, .int .i64 x.s] TE)) :=
  Src.ofSlice _ ht ⟨W.heap.size, 0, none⟩ 1 1 _ rfl (by simpa [cellsE] using World.news_of_block (cs := #[.int .i64 x.l, .int .i64 x.p, .int .i64 x.s]) (t := TE) (fr := (0, 0)) (heap_alloc_new W _)) (cellsE_one _)
theorem infoE : (Try.prog.info? 170).map (fun i => (i.zero, i.size, i.bytes)) = some (some (Value.agg #[.int .i64 0, .int .i64 0, .int .i64 0]), 3, 24) := by kernel_rfl
theorem infoS : (Try.prog.info? 172).map (fun i => (i.zero, i.size, i.bytes)) = some (some (Value.agg #[.int .i64 0, .int .i64 0, .int .i64 0]), 3, 24) := by kernel_rfl
end Go.Proofs.Ytfeddgeihpfjfaa
