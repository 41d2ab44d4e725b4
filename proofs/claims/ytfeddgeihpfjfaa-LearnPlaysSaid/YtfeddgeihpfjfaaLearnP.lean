/- The table of a switch, in plain words: what the program keeps and what the reference keeps. -/
import Derived.Test.YtfeddgeihpfjfaaMem
import Derived.Lib.Hide
set_option linter.unusedVariables false
set_option linter.unusedSimpArgs false
namespace Go.Proofs.Ytfeddgeihpfjfaa
open Go.RowKit

/-- Where a station was seen: link, port, time. -/
structure Ent where
  l : Int
  p : Int
  s : Int
instance : Inhabited Ent := ⟨⟨0, 0, 0⟩⟩

def freshL (age now : Int) (es : List Ent) : List Ent := es.filter fun x => decide (now - x.s < age)
def passL (age now : Int) : List Ent → List Ent
  | [] => []
  | x :: xs => if x.s + age ≤ now then passL age now xs else x :: xs
def delL (k : Int) : List Ent → List Ent
  | [] => []
  | x :: xs => if x.l = k then xs else x :: delL k xs
def othL (k : Int) (es : List Ent) : List Ent := es.filter fun x => decide (x.l ≠ k)
def dropL (port : Int) (es : List Ent) : List Ent := es.filter fun x => decide (x.p ≠ port)
def findL (k : Int) : List Ent → Int × Bool
  | [] => (0, false)
  | x :: xs => if x.l = k then (x.p, true) else findL k xs
/-- The program's way to store one, behind 'fresh'. -/
def putP (room link port now : Int) (es : List Ent) : List Ent :=
  (if ((delL link es).length : Int) = room then (delL link es).drop 1 else delL link es) ++ [⟨link, port, now⟩]
/-- The reference's way. -/
def putR (room link port now : Int) (es : List Ent) : List Ent :=
  (othL link es ++ [(⟨link, port, now⟩ : Ent)]).drop (max 0 (((othL link es).length : Int) + 1 - room)).toNat

/-- What holds of a table between the calls. -/
structure TabOK (age room last : Int) (es : List Ent) : Prop where
  a0 : 1 ≤ age
  a1 : age ≤ 1000000000
  r0 : 1 ≤ room
  r1 : room ≤ 256
  t0 : 0 ≤ last
  t1 : last ≤ 1000000000
  bnd : ∀ x ∈ es, 0 ≤ x.s ∧ x.s ≤ last ∧ 0 ≤ x.p ∧ x.p ≤ 7 ∧ 0 ≤ x.l ∧ x.l ≤ 281474976710655
  srt : es.Pairwise fun a b => a.s ≤ b.s
  dst : es.Pairwise fun a b => a.l ≠ b.l
  len : (es.length : Int) ≤ room

theorem TabOK.sub {age room last last' : Int} {es es' : List Ent} (h : TabOK age room last es) (hs : es'.Sublist es) (h0 : last ≤ last') (h1 : last' ≤ 1000000000) : TabOK age room last' es' :=
  ⟨h.a0, h.a1, h.r0, h.r1, by have := h.t0; omega, h1, fun x hx => by have := h.bnd x (hs.subset hx); omega, h.srt.sublist hs, h.dst.sublist hs, by have := h.len; have := hs.length_le; omega⟩
theorem TabOK.nil {age room : Int} (a0 : 1 ≤ age) (a1 : age ≤ 1000000000) (r0 : 1 ≤ room) (r1 : room ≤ 256) : TabOK age room 0 [] :=
  ⟨a0, a1, r0, r1, by omega, by omega, fun x hx => absurd hx (by simp), by simp, by simp, by simp; omega⟩

theorem fresh_sub (age now : Int) (es : List Ent) : (freshL age now es).Sublist es := List.filter_sublist
theorem pass_fresh (age now : Int) : ∀ es : List Ent, es.Pairwise (fun a b => a.s ≤ b.s) → passL age now es = freshL age now es
  | [], _ => rfl
  | x :: xs, h => by
    obtain ⟨h1, h2⟩ := List.pairwise_cons.1 h
    unfold passL freshL
    by_cases c : x.s + age ≤ now
    · rw [if_pos c, List.filter_cons_of_neg (by simp; omega), pass_fresh age now xs h2]; rfl
    · rw [if_neg c, List.filter_cons_of_pos (by simp; omega)]
      congr 1
      refine (List.filter_eq_self.2 fun y hy => ?_).symm
      have := h1 y hy
      simp; omega
theorem del_oth (k : Int) : ∀ es : List Ent, es.Pairwise (fun a b => a.l ≠ b.l) → delL k es = othL k es
  | [], _ => rfl
  | x :: xs, h => by
    obtain ⟨h1, h2⟩ := List.pairwise_cons.1 h
    unfold delL othL
    by_cases c : x.l = k
    · rw [if_pos c, List.filter_cons_of_neg (by simp [c])]
      refine (List.filter_eq_self.2 fun y hy => ?_).symm
      have := h1 y hy
      simp; omega
    · rw [if_neg c, List.filter_cons_of_pos (by simp [c]), del_oth k xs h2]; rfl
theorem oth_sub (k : Int) (es : List Ent) : (othL k es).Sublist es := List.filter_sublist
theorem drop_sub (k : Int) (es : List Ent) : (dropL k es).Sublist es := List.filter_sublist
theorem oth_ne (k : Int) (es : List Ent) : ∀ x ∈ othL k es, x.l ≠ k := fun x hx => by
  have := (List.mem_filter.1 hx).2
  simpa using this
/-- Both ways store alike, and what holds of a table holds on. -/
theorem put_same {age room last : Int} {es : List Ent} (h : TabOK age room last es) (link port : Int) : putP room link port last es = putR room link port last es := by
  unfold putP putR
  rw [del_oth link es h.dst]
  have hl := (oth_sub link es).length_le
  have hn := h.len
  have hr := h.r0
  by_cases c : ((othL link es).length : Int) = room
  · rw [if_pos c, show (max 0 (((othL link es).length : Int) + 1 - room)).toNat = 1 by omega]
    rw [List.drop_append_of_le_length (by omega)]
  · rw [if_neg c, show (max 0 (((othL link es).length : Int) + 1 - room)).toNat = 0 by omega]; rfl
theorem put_ok {age room last : Int} {es : List Ent} (h : TabOK age room last es) {link port : Int} (l0 : 0 ≤ link) (l1 : link ≤ 281474976710655) (p0 : 0 ≤ port) (p1 : port ≤ 7) : TabOK age room last (putP room link port last es) := by
  unfold putP
  rw [del_oth link es h.dst]
  have hl := (oth_sub link es).length_le
  have hn := h.len
  have hr := h.r0
  have hs : (if ((othL link es).length : Int) = room then (othL link es).drop 1 else othL link es).Sublist (othL link es) := by
    split
    · exact List.drop_sublist _ _
    · exact List.Sublist.refl _
  have hlen : ((if ((othL link es).length : Int) = room then (othL link es).drop 1 else othL link es).length : Int) + 1 ≤ room := by
    split
    · rw [List.length_drop]; omega
    · omega
  generalize (if ((othL link es).length : Int) = room then (othL link es).drop 1 else othL link es) = zs at hs hlen
  have hk := h.sub (hs.trans (oth_sub link es)) (Int.le_refl _) h.t1
  have t0 := h.t0
  refine ⟨h.a0, h.a1, h.r0, h.r1, h.t0, h.t1, fun x hx => ?_, ?_, ?_, by rw [List.length_append]; simp; omega⟩
  · rcases List.mem_append.1 hx with hx | hx
    · exact hk.bnd x hx
    · obtain rfl : x = ⟨link, port, last⟩ := by simpa using hx
      exact ⟨t0, Int.le_refl _, p0, p1, l0, l1⟩
  · refine List.pairwise_append.2 ⟨hk.srt, by simp, fun a ha b hb => ?_⟩
    obtain rfl : b = ⟨link, port, last⟩ := by simpa using hb
    exact (hk.bnd a ha).2.1
  · refine List.pairwise_append.2 ⟨hk.dst, by simp, fun a ha b hb => ?_⟩
    obtain rfl : b = ⟨link, port, last⟩ := by simpa using hb
    exact oth_ne link es a (hs.subset ha)
theorem fresh_ok {age room last now : Int} {es : List Ent} (h : TabOK age room last es) (h0 : last ≤ now) (h1 : now ≤ 1000000000) : TabOK age room now (freshL age now es) := h.sub (fresh_sub _ _ _) h0 h1
theorem drop_ok {age room last : Int} {es : List Ent} (h : TabOK age room last es) (port : Int) : TabOK age room last (dropL port es) := h.sub (drop_sub _ _) (Int.le_refl _) h.t1

/-- A time: its error. -/
def timeE (last now : Int) : Int := if now < 0 ∨ 1000000000 < now then 1 else if now < last then 13 else 0
/-- A sighting: its error, ahead of the time's. -/
def badSee (link port : Int) : Prop := link < 0 ∨ 281474976710655 < link ∨ link / 1099511627776 % 2 = 1 ∨ port < 0 ∨ 7 < port
instance (link port : Int) : Decidable (badSee link port) := by unfold badSee; infer_instance

/-- One more of a list that is filtered. -/
theorem filter_snoc {es : List Ent} (f : Ent → Bool) {k : Nat} (h : k < es.length) : (es.take (k + 1)).filter f = (es.take k).filter f ++ if f (es.getD k default) then [es.getD k default] else [] := by
  have e : es.getD k default = es[k] := by rw [List.getD_eq_getElem?_getD, List.getElem?_eq_getElem h]; rfl
  rw [List.take_succ_eq_append_getElem h, List.filter_append, e]
  congr 1
  by_cases c : f es[k] = true <;> simp [c]
end Go.Proofs.Ytfeddgeihpfjfaa
