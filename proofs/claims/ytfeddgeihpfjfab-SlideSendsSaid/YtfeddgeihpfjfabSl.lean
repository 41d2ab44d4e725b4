/- A slice that lies anywhere in a row of the call's own, and append upon it. -/
import Derived.Test.YtfeddgeihpfjfabMem
import Derived.Deep.AppendSrc
import Derived.Deep.Upon
import Derived.Lib.Hide
set_option linter.unusedVariables false
set_option linter.unusedSimpArgs false
namespace Go.Proofs.Ytfeddgeihpfjfab
open Go.RowKit

theorem addr_plain (b o j : Nat) : (⟨b, o, none⟩ : Addr).add j = ⟨b, o + j, none⟩ := by unfold Addr.add; split <;> simp_all

/-- v is a slice of n elements xs in a row from block base on. -/
def OwnAt (W : World) (base : Nat) (e : TypeId) (size : Nat) (v : Value) (n : Nat) (xs : List Value) : Prop :=
  xs.length = n * size ∧ ((v = .slice none 0 0 ∧ n = 0) ∨ ∃ g o cap cur, v = .slice (some ⟨g, o, none⟩) n cap ∧ base ≤ g ∧ Blk W g cur e ∧ n ≤ cap ∧ cap ≤ maxLen ∧ o + cap * size ≤ cur.size ∧ (cur.toList.drop o).take (n * size) = xs)

namespace OwnAt
variable {W W1 : World} {base : Nat} {e : TypeId} {size n : Nat} {v : Value} {xs : List Value}
theorem of_row (h : W.ownsRow base e size v n xs) : OwnAt W base e size v n xs := by
  refine ⟨h.1, ?_⟩
  rcases h.2 with ⟨rfl, rfl⟩ | ⟨g, cap, cur, rfl, hb, hg, h1, h2, h3, h4⟩
  · exact .inl ⟨rfl, rfl⟩
  · exact .inr ⟨g, 0, cap, cur, rfl, hb, hg, h1, h2, by omega, by simpa using h4⟩
theorem kept (h : OwnAt W base e size v n xs) {row : Option Nat} (hg : W.grownBy W1 row) (hne : v.ownBlock = none ∨ v.ownBlock ≠ row) : OwnAt W1 base e size v n xs := by
  refine ⟨h.1, ?_⟩
  rcases h.2 with hn | ⟨g, o, cap, cur, rfl, hb, hgg, rest⟩
  · exact .inl hn
  · refine .inr ⟨g, o, cap, cur, rfl, hb, ?_, rest⟩
    have hlt := hgg.lt
    unfold Blk at *
    rw [hg.block g hlt (by simpa [Value.ownBlock] using hne)]
    exact hgg
theorem alloc (h : OwnAt W base e size v n xs) (o : Obj) : OwnAt (W.alloc o) base e size v n xs :=
  h.kept (World.grownBy_alloc W o none) (by cases hv : v.ownBlock <;> simp)
theorem drewN (h : OwnAt W base e size v n xs) (m : Nat) : OwnAt (W.drewN m) base e size v n xs := h
theorem slice (h : OwnAt W base e size v n xs) : ∃ A c, v = .slice A n c ∧ n ≤ c ∧ c ≤ maxLen := by
  rcases h.2 with ⟨rfl, rfl⟩ | ⟨g, o, cap, cur, rfl, hb, hgg, h1, h2, _⟩
  · exact ⟨none, 0, rfl, by omega, by unfold maxLen; omega⟩
  · exact ⟨_, cap, rfl, h1, h2⟩
theorem cells {g o c : Nat} (h : OwnAt W base e size (.slice (some ⟨g, o, none⟩) n c) n xs) : ∀ j u, xs[j]? = some u → W.cell? ((⟨g, o, none⟩ : Addr).add j) = some u := by
  intro j u hu
  rcases h.2 with ⟨h0, _⟩ | ⟨g', o', cap, cur, he, _, hgg, _, _, _, htake⟩
  · cases h0
  · injection he with he1 he2 he3
    injection he1 with he1
    injection he1 with e1 e2
    subst e1; subst e2
    rw [addr_plain]
    refine hgg.cell _ ?_
    rw [← htake, List.getElem?_take] at hu
    split at hu
    · simpa using hu
    · cases hu
theorem base_le (h : OwnAt W base e size v n xs) : ∀ k, v.ownBlock = some k → base ≤ k := by
  intro k hk
  rcases h.2 with ⟨rfl, _⟩ | ⟨g, o, cap, cur, rfl, hb, _⟩
  · simp [Value.ownBlock] at hk
  · simp [Value.ownBlock] at hk; omega
end OwnAt

/-- n elements more, out of whatever source: in place, or in a new row. -/
theorem run_append_at3 {P : Program} {W : World} {base : Nat} {e : TypeId} {size n : Nat} {v : Value} {xs : List Value} (h : OwnAt W base e size v n xs)
    (t tx ty : TypeId) (i : TypeInfo) (z : Value) (bytes : Nat) (ht : P.underlying t = some (.slice e)) (hi : P.info? e = some i) (hz : i.zero = some z) (hsize : i.size = size) (hby : i.bytes = bytes) (hzs : z.cells.size = size)
    (x : Value) (m : Nat) (news : List Value) (hs : Src P size tx x m news W) (h63 : n + m ≤ maxLen) (hbytes : (n + m) * bytes ≤ 140737488355328) (hbase : base ≤ W.heap.size) :
    ∃ v' w', (Builtin.append_ #[t, tx] ty #[v, x]).run P W = .ok v' w' ∧ OwnAt w' base e size v' (n + m) (xs ++ news) ∧ W.grownBy w' v.ownBlock ∧ (v'.ownBlock = v.ownBlock ∨ v'.ownBlock = some W.heap.size) := by
  subst hsize
  subst hby
  have hlen : (xs ++ news).length = (n + m) * i.size := by rw [List.length_append, h.1, hs.newsLen, Nat.add_mul]
  have hsmall : n + m ≤ 9223372036854775807 := by simp only [maxLen] at h63; omega
  have grown : ∀ (old : Nat), old < n + m → ∀ (row : Option Nat),
      OwnAt (W.drew.alloc (.cells ((xs ++ news).toArray ++ Builtin.zeroCells z.cells (grownCap W (n + m) old e - (n + m))) e)) base e i.size
        (.slice (some ⟨W.heap.size, 0, none⟩) (n + m) (grownCap W (n + m) old e)) (n + m) (xs ++ news) ∧
      W.grownBy (W.drew.alloc (.cells ((xs ++ news).toArray ++ Builtin.zeroCells z.cells (grownCap W (n + m) old e - (n + m))) e)) row := by
    intro old ho row
    have hge := grownCap_ge W (n + m) old e
    have hcm : grownCap W (n + m) old e ≤ maxLen := grownCap_le_maxLen W (n + m) old e h63
    refine ⟨⟨hlen, .inr ⟨W.heap.size, 0, _, _, rfl, hbase, heap_alloc_new W.drew _, hge, hcm, ?_, ?_⟩⟩, ⟨rfl, rfl, rfl, by simp, fun k hk _ => (Below.heap_alloc W.drew _ _ (by simpa using hk)).trans rfl⟩⟩
    · simp only [Array.size_append, List.size_toArray, size_zeroCells, hzs, hlen, ← Nat.add_mul, Nat.zero_add]
      rw [show n + m + (grownCap W (n + m) old e - (n + m)) = grownCap W (n + m) old e by omega]
      exact Nat.le_refl _
    · simp only [Array.toList_append, List.drop_zero, ← hlen]
      exact List.take_left
  rcases h.2 with ⟨rfl, rfl⟩ | ⟨g, o, cap, cur, rfl, hbg, hg, hnc, hcm, hcs, htake⟩
  · have hx : xs = [] := List.eq_nil_of_length_eq_zero (by simpa using h.1)
    subst hx
    by_cases hm : m = 0
    · subst hm
      have hn : news = [] := List.eq_nil_of_length_eq_zero (by simpa using hs.newsLen)
      subst hn
      exact ⟨_, _, run_append_nothing W t tx ty e i ht hi none 0 0 (Nat.le_refl _) x hs, ⟨by simp, .inl ⟨rfl, rfl⟩⟩, ⟨rfl, rfl, rfl, Nat.le_refl _, fun _ _ _ => rfl⟩, .inl rfl⟩
    · have hr := run_append_grow_src (P := P) W t tx ty e i z ht hi hz none 0 0 [] (run_firstCells_none W.drew i.size 0 0 0) x m news hs (by omega) (by omega) (by
        have hb := hbytes
        exact growslice_fits (by omega) hb)
      have hgr := grown 0 (by omega) (Value.ownBlock (.slice none 0 0))
      exact ⟨_, _, hr, hgr.1, hgr.2, .inr rfl⟩
  · by_cases hroom : n + m ≤ cap
    · have hfit : o + n * i.size + news.length ≤ cur.size := by
        rw [hs.newsLen]
        have := Nat.mul_le_mul_right i.size hroom
        rw [Nat.add_mul] at this
        omega
      have hst := run_storeCells_at P g (o + n * i.size) e news 0 cur W hg (by omega) hs.one
      have hr : (Builtin.append_ #[t, tx] ty #[.slice (some ⟨g, o, none⟩) n cap, x]).run P W = .ok (.slice (some ⟨g, o, none⟩) (n + m) cap) (W.setRow g (cur.toList.take (o + n * i.size) ++ news ++ cur.toList.drop (o + n * i.size + news.length)).toArray) := by
        simp only [Nat.add_zero] at hst
        rcases hs.kind with ⟨e', hk⟩ | hk <;> simp [Builtin.append_, run_underlying ht, run_underlying hk, sizeOf, typeInfo, hi, hs.len, hroom, hs.cells, Addr.add_lit, hst]
      refine ⟨_, _, hr, ⟨hlen, .inr ⟨g, o, cap, _, rfl, hbg, setRow_heap W g cur _ e _ hg, hroom, hcm, ?_, ?_⟩⟩, ⟨rfl, rfl, rfl, by simp, fun k _ hk => setRow_other W g k _ (fun e => hk (by simp [Value.ownBlock, e]))⟩, .inl rfl⟩
      · simp only [List.size_toArray, List.length_append, List.length_take, List.length_drop, Array.length_toList]
        omega
      · have e1 : cur.toList.take (o + n * i.size) = cur.toList.take o ++ xs := by
          rw [List.take_add, htake]
        have hlo : (cur.toList.take o).length = o := by rw [List.length_take, Array.length_toList]; omega
        show List.take _ (List.drop o (cur.toList.take (o + n * i.size) ++ news ++ cur.toList.drop (o + n * i.size + news.length))) = _
        rw [e1, List.append_assoc, List.append_assoc, List.drop_append_of_le_length (by omega), List.drop_of_length_le (by omega), List.nil_append, ← List.append_assoc, ← hlen]
        exact List.take_left
    · have holds : ∀ j u, xs[j]? = some u → W.cell? ((⟨g, o, none⟩ : Addr).add j) = some u := h.cells
      have hold := run_firstCells_some (P := P) W.drew i.size n ⟨g, o, none⟩ n cap xs h.1 (by simpa using holds)
      have hr := run_append_grow_src (P := P) W t tx ty e i z ht hi hz (some ⟨g, o, none⟩) n cap xs hold x m news hs (by omega) (by omega) (growslice_fits (by omega) hbytes)
      have hgr := grown cap (by omega) (Value.ownBlock (.slice (some ⟨g, o, none⟩) n cap))
      exact ⟨_, _, hr, hgr.1, hgr.2, .inr rfl⟩
/-- n elements more, out of whatever source: in place, or in a new row. -/
theorem run_append_at {P : Program} {W : World} {base : Nat} {e : TypeId} {size n : Nat} {v : Value} {xs : List Value} (h : OwnAt W base e size v n xs)
    (t tx ty : TypeId) (i : TypeInfo) (z : Value) (bytes : Nat) (ht : P.underlying t = some (.slice e)) (hi : P.info? e = some i) (hz : i.zero = some z) (hsize : i.size = size) (hby : i.bytes = bytes) (hzs : z.cells.size = size)
    (x : Value) (m : Nat) (news : List Value) (hs : Src P size tx x m news W) (h63 : n + m ≤ maxLen) (hbytes : (n + m) * bytes ≤ 140737488355328) (hbase : base ≤ W.heap.size) :
    ∃ v' w', (Builtin.append_ #[t, tx] ty #[v, x]).run P W = .ok v' w' ∧ OwnAt w' base e size v' (n + m) (xs ++ news) ∧ W.grownBy w' v.ownBlock := by
  obtain ⟨v', w', h1, h2, h3, _⟩ := run_append_at3 h t tx ty i z bytes ht hi hz hsize hby hzs x m news hs h63 hbytes hbase
  exact ⟨v', w', h1, h2, h3⟩
end Go.Proofs.Ytfeddgeihpfjfab
namespace Go.Proofs.Ytfeddgeihpfjfab
open Go.RowKit
namespace OwnAt
variable {W : World} {base : Nat} {e : TypeId} {size n : Nat} {xs : List Value}
theorem drew {v : Value} (h : OwnAt W base e size v n xs) : OwnAt W.drew base e size v n xs := h
theorem below {W1 : World} {v : Value} (h : OwnAt W base e size v n xs) (hb : Below W.heap.size W W1) : OwnAt W1 base e size v n xs := by
  refine ⟨h.1, ?_⟩
  rcases h.2 with h | ⟨g', o, cap, cur, he, hb', hgg, rest⟩
  · exact .inl h
  · exact .inr ⟨g', o, cap, cur, he, hb', blk_below hb hgg, rest⟩
theorem caps {A : Option Addr} {c : Nat} (h : OwnAt W base e size (.slice A n c) n xs) : n ≤ c ∧ c ≤ maxLen := by
  obtain ⟨A', c', he, h1, h2⟩ := h.slice
  injection he with _ _ he
  subst he
  exact ⟨h1, h2⟩
theorem typed {g o c : Nat} (h : OwnAt W base e size (.slice (some ⟨g, o, none⟩) n c) n xs) : ∃ cells, Blk W g cells e := by
  rcases h.2 with ⟨h0, _⟩ | ⟨g', o', cap, cur, he, hb', hgg, rest⟩
  · cases h0
  · injection he with he _ _
    injection he with he
    injection he with he _
    subst he
    exact ⟨cur, hgg⟩
theorem ne {v : Value} {g : Nat} {cs : Array Value} {T : TypeId} (h : OwnAt W base e size v n xs) (hb : Blk W g cs T) (hne : e ≠ T) : v.ownBlock ≠ some g := by
  rcases h.2 with ⟨rfl, _⟩ | ⟨g', o', cap, cur, rfl, hb', hgg, rest⟩
  · simp [Value.ownBlock]
  · intro hq
    have hq : g' = g := by simpa [Value.ownBlock] using hq
    subst hq
    unfold Blk at *
    rw [hb] at hgg
    injection hgg with hgg
    injection hgg with _ hgg
    exact hne hgg.symm
theorem setCell {v : Value} (h : OwnAt W base e size v n xs) {a : Addr} (hne : v.ownBlock ≠ some a.block) (u : Value) : OwnAt (W.setCell a u) base e size v n xs := by
  refine ⟨h.1, ?_⟩
  rcases h.2 with h | ⟨g', o', cap, cur, he, hb', hgg, rest⟩
  · exact .inl h
  · refine .inr ⟨g', o', cap, cur, he, hb', hgg.other ?_ _, rest⟩
    subst he
    simpa [Value.ownBlock] using hne
/-- The first k, with no room behind them. -/
theorem take {h o c : Nat} (H : OwnAt W base e size (.slice (some ⟨h, o, none⟩) n c) n xs) (k : Nat) (hk : k ≤ n) : OwnAt W base e size (.slice (some ⟨h, o, none⟩) k k) k (xs.take (k * size)) := by
  rcases H.2 with ⟨h0, _⟩ | ⟨g', o', cap, cur, he, hb, hgg, h1, h2, h3, htake⟩
  · cases h0
  · injection he with he1 he2 he3
    injection he1 with he1
    injection he1 with e1 e2
    subst e1; subst e2; subst he3
    have hm := Nat.mul_le_mul_right size hk
    have hm2 := Nat.mul_le_mul_right size h1
    refine ⟨by rw [List.length_take, H.1]; omega, .inr ⟨h, o, k, cur, rfl, hb, hgg, Nat.le_refl _, by omega, by omega, ?_⟩⟩
    rw [← htake, List.take_take, Nat.min_eq_left hm]
/-- Without the first k. -/
theorem drop {h o c : Nat} (H : OwnAt W base e size (.slice (some ⟨h, o, none⟩) n c) n xs) (k : Nat) (hk : k ≤ n) : OwnAt W base e size (.slice (some ⟨h, o + k * size, none⟩) (n - k) (c - k)) (n - k) (xs.drop (k * size)) := by
  rcases H.2 with ⟨h0, _⟩ | ⟨g', o', cap, cur, he, hb, hgg, h1, h2, h3, htake⟩
  · cases h0
  · injection he with he1 he2 he3
    injection he1 with he1
    injection he1 with e1 e2
    subst e1; subst e2; subst he3
    have hm := Nat.mul_le_mul_right size hk
    have hm2 := Nat.mul_le_mul_right size h1
    refine ⟨by rw [List.length_drop, H.1, Nat.sub_mul], .inr ⟨h, _, c - k, cur, rfl, hb, hgg, by omega, by omega, by rw [Nat.sub_mul]; omega, ?_⟩⟩
    rw [← htake, ← List.drop_drop, Nat.sub_mul, List.drop_take]
end OwnAt
theorem blk_grown {W W1 : World} {g : Nat} {cs : Array Value} {T : TypeId} {row : Option Nat} (hb : Blk W g cs T) (hg : W.grownBy W1 row) (hne : row ≠ some g) : Blk W1 g cs T := by
  have hlt := hb.lt
  unfold Blk at *
  rw [hg.block g hlt (fun h => hne h.symm)]; exact hb
theorem blkB {B : Nat} {W W1 : World} {g : Nat} {cs : Array Value} {T : TypeId} (h : Below B W W1) (hg : g < B) (hb : Blk W g cs T) : Blk W1 g cs T := (h.block g hg).trans hb
theorem Blk.type' {W : World} {g : Nat} {cs cs' : Array Value} {T T' : TypeId} (h : Blk W g cs T) (h' : Blk W g cs' T') : T = T' := by
  unfold Blk at *
  rw [h] at h'
  injection h' with h'
  injection h' with _ h'
theorem fr_grown {w W W1 : World} {g : Nat} {row : Option Nat} (h : Fr (· = g) w W) (hg : W.grownBy W1 row) (hr : ∀ k, row = some k → w.heap.size ≤ k) : Fr (· = g) w W1 :=
  ⟨hg.os.trans h.os, hg.tape.trans h.tape, hg.output.trans h.output, Nat.le_trans h.size hg.size, fun k hk hn => (hg.block k (Nat.lt_of_lt_of_le hk h.size) (fun e => by have := hr k e.symm; omega)).trans (h.block k hk hn)⟩
section
variable {P : Program} {W : World}
/-- append upon it, as one step of a region that draws. -/
theorem step_append_at {ops : Array Oper} {o : Oper} {a : Act} {K : Act → World → Prop} {Q : Exit → Act → World → Prop} {E : Prop} (hgd : o.guard = none) (s x : Operand) (t tx e : TypeId) (z : Value) (base size bytes : Nat)
    (ho : o.op = .call { callee := .builtin .append, args := #[s, x], argTypes := #[t, tx] })
    (ht : P.underlying t = some (.slice e)) (hinfo : (P.info? e).map (fun i => (i.zero, i.size, i.bytes)) = some (some z, size, bytes)) (hz : z.cells.size = size)
    (v xv : Value) (n m : Nat) (xs news : List Value) (hs : a.eval s = v) (hx : a.eval x = xv) (H : OwnAt W base e size v n xs) (hsrc : Src P size tx xv m news W)
    (h63 : n + m ≤ maxLen) (hbytes : (n + m) * bytes ≤ 140737488355328) (hbase : base ≤ W.heap.size)
    (h : ∀ v' w', OwnAt w' base e size v' (n + m) (xs ++ news) → W.grownBy w' v.ownBlock → K (a.put o.dst v') w') :
    if Region.wanted o (yielded ops a.tmps) = true then Oper.wp P o a W K Q else E := by
  have hw : Region.wanted o (yielded ops a.tmps) = true := by simp [Region.wanted, hgd]
  rw [if_pos hw]
  obtain ⟨i0, hi, hzz⟩ := Option.map_eq_some_iff.1 hinfo
  simp only [Prod.mk.injEq] at hzz
  obtain ⟨hz0, hz1, hz2⟩ := hzz
  obtain ⟨v', w', hr, h2, h3⟩ := run_append_at (P := P) H t tx o.type i0 z bytes ht hi hz0 hz1 hz2 hz xv m news hsrc h63 hbytes hbase
  unfold Oper.wp execOp
  simp only [ho, resolve, invoke, builtin, Sem.run_bind, Sem.run_pure, Result.andThen_ok, List.map_toArray, List.map_cons, List.map_nil, hs, hx, hr]
  exact h v' w' h2 h3
theorem step_append_at3 {ops : Array Oper} {o : Oper} {a : Act} {K : Act → World → Prop} {Q : Exit → Act → World → Prop} {E : Prop} (hgd : o.guard = none) (s x : Operand) (t tx e : TypeId) (z : Value) (base size bytes : Nat)
    (ho : o.op = .call { callee := .builtin .append, args := #[s, x], argTypes := #[t, tx] })
    (ht : P.underlying t = some (.slice e)) (hinfo : (P.info? e).map (fun i => (i.zero, i.size, i.bytes)) = some (some z, size, bytes)) (hz : z.cells.size = size)
    (v xv : Value) (n m : Nat) (xs news : List Value) (hs : a.eval s = v) (hx : a.eval x = xv) (H : OwnAt W base e size v n xs) (hsrc : Src P size tx xv m news W)
    (h63 : n + m ≤ maxLen) (hbytes : (n + m) * bytes ≤ 140737488355328) (hbase : base ≤ W.heap.size)
    (h : ∀ v' w', OwnAt w' base e size v' (n + m) (xs ++ news) → W.grownBy w' v.ownBlock → (v'.ownBlock = v.ownBlock ∨ v'.ownBlock = some W.heap.size) → K (a.put o.dst v') w') :
    if Region.wanted o (yielded ops a.tmps) = true then Oper.wp P o a W K Q else E := by
  have hw : Region.wanted o (yielded ops a.tmps) = true := by simp [Region.wanted, hgd]
  rw [if_pos hw]
  obtain ⟨i0, hi, hzz⟩ := Option.map_eq_some_iff.1 hinfo
  simp only [Prod.mk.injEq] at hzz
  obtain ⟨hz0, hz1, hz2⟩ := hzz
  obtain ⟨v', w', hr, h2, h3, h4⟩ := run_append_at3 (P := P) H t tx o.type i0 z bytes ht hi hz0 hz1 hz2 hz xv m news hsrc h63 hbytes hbase
  unfold Oper.wp execOp
  simp only [ho, resolve, invoke, builtin, Sem.run_bind, Sem.run_pure, Result.andThen_ok, List.map_toArray, List.map_cons, List.map_nil, hs, hx, hr]
  exact h v' w' h2 h3 h4
theorem wpList_append_at {ops : Array Oper} {rest : List Oper} {o : Oper} {a : Act} {Q : Exit → Act → World → Prop} (hgd : o.guard = none) (s x : Operand) (t tx e : TypeId) (z : Value) (base size bytes : Nat)
    (ho : o.op = .call { callee := .builtin .append, args := #[s, x], argTypes := #[t, tx] })
    (ht : P.underlying t = some (.slice e)) (hinfo : (P.info? e).map (fun i => (i.zero, i.size, i.bytes)) = some (some z, size, bytes)) (hz : z.cells.size = size)
    (v xv : Value) (n m : Nat) (xs news : List Value) (hs : a.eval s = v) (hx : a.eval x = xv) (H : OwnAt W base e size v n xs) (hsrc : Src P size tx xv m news W)
    (h63 : n + m ≤ maxLen) (hbytes : (n + m) * bytes ≤ 140737488355328) (hbase : base ≤ W.heap.size)
    (h : ∀ v' w', OwnAt w' base e size v' (n + m) (xs ++ news) → W.grownBy w' v.ownBlock → wpList P ops Q rest (a.put o.dst v') w') : wpList P ops Q (o :: rest) a W := by
  obtain ⟨i0, hi, hzz⟩ := Option.map_eq_some_iff.1 hinfo
  simp only [Prod.mk.injEq] at hzz
  obtain ⟨hz0, hz1, hz2⟩ := hzz
  obtain ⟨v', w', hr, h2, h3⟩ := run_append_at (P := P) H t tx o.type i0 z bytes ht hi hz0 hz1 hz2 hz xv m news hsrc h63 hbytes hbase
  refine wpList_plain hgd fun K hK => ?_
  unfold Oper.wp execOp
  simp only [ho, resolve, invoke, builtin, Sem.run_bind, Sem.run_pure, Result.andThen_ok, List.map_toArray, List.map_cons, List.map_nil, hs, hx, hr]
  exact hK _ _ (h v' w' h2 h3)
theorem wpList_append_at3 {ops : Array Oper} {rest : List Oper} {o : Oper} {a : Act} {Q : Exit → Act → World → Prop} (hgd : o.guard = none) (s x : Operand) (t tx e : TypeId) (z : Value) (base size bytes : Nat)
    (ho : o.op = .call { callee := .builtin .append, args := #[s, x], argTypes := #[t, tx] })
    (ht : P.underlying t = some (.slice e)) (hinfo : (P.info? e).map (fun i => (i.zero, i.size, i.bytes)) = some (some z, size, bytes)) (hz : z.cells.size = size)
    (v xv : Value) (n m : Nat) (xs news : List Value) (hs : a.eval s = v) (hx : a.eval x = xv) (H : OwnAt W base e size v n xs) (hsrc : Src P size tx xv m news W)
    (h63 : n + m ≤ maxLen) (hbytes : (n + m) * bytes ≤ 140737488355328) (hbase : base ≤ W.heap.size)
    (h : ∀ v' w', OwnAt w' base e size v' (n + m) (xs ++ news) → W.grownBy w' v.ownBlock → (v'.ownBlock = v.ownBlock ∨ v'.ownBlock = some W.heap.size) → wpList P ops Q rest (a.put o.dst v') w') : wpList P ops Q (o :: rest) a W := by
  obtain ⟨i0, hi, hzz⟩ := Option.map_eq_some_iff.1 hinfo
  simp only [Prod.mk.injEq] at hzz
  obtain ⟨hz0, hz1, hz2⟩ := hzz
  obtain ⟨v', w', hr, h2, h3, h4⟩ := run_append_at3 (P := P) H t tx o.type i0 z bytes ht hi hz0 hz1 hz2 hz xv m news hsrc h63 hbytes hbase
  refine wpList_plain hgd fun K hK => ?_
  unfold Oper.wp execOp
  simp only [ho, resolve, invoke, builtin, Sem.run_bind, Sem.run_pure, Result.andThen_ok, List.map_toArray, List.map_cons, List.map_nil, hs, hx, hr]
  exact hK _ _ (h v' w' h2 h3 h4)
end
end Go.Proofs.Ytfeddgeihpfjfab
