/- The sending end, in plain words, and in memory. -/
import Derived.Test.YtfeddgeihpfjfabNumb
import Derived.Test.YtfeddgeihpfjfabSl
import Derived.Test.YtfeddgeihpfjfabPk
set_option linter.unusedVariables false
set_option linter.unusedSimpArgs false
namespace Go.Proofs.Ytfeddgeihpfjfab
open Go.RowKit Crc Go.Proofs.YtfeddgeihpfjfabW.PrintWords

/-- All bodies; how many are acknowledged; how many have been sent. -/
structure Snd where
  all : List ByteArray
  got : Nat
  sent : Nat
structure SndOK (md : Nat) (s : Snd) : Prop where
  mo : md = 8 ∨ md = 16
  gs : s.got ≤ s.sent
  sl : s.sent ≤ s.all.length
  wd : s.all.length - s.got ≤ md - 1
  bd : ∀ b ∈ s.all, b.size ≤ 1500
/-- The frame of a body. -/
def frameS (md i : Nat) (b : ByteArray) : ByteArray := bs (sealed (68 :: UInt8.ofNat (i % md) :: b.data.toList))
def outL (md : Nat) : Nat → List ByteArray → List ByteArray
  | _, [] => []
  | i, b :: l => frameS md i b :: outL md (i + 1) l
def outS (md : Nat) (s : Snd) : List ByteArray := outL md s.sent (s.all.drop s.sent)
def putS (md : Nat) (s : Snd) (b : ByteArray) : Int × Snd :=
  if 1500 < b.size then (2, s) else if s.all.length - s.got = md - 1 then (15, s) else (0, ⟨s.all ++ [b], s.got, s.sent⟩)
def goodAck (md : Nat) (x : List UInt8) : Prop := x.length = 2 ∧ x.getD 0 0 = 65 ∧ (x.getD 1 0).toNat < md
instance (md : Nat) (x : List UInt8) : Decidable (goodAck md x) := by unfold goodAck; infer_instance
/-- How many a number acknowledges. -/
def ackN (md got c : Nat) : Nat := (c + md - got % md) % md
def ackS (md : Nat) (s : Snd) (t : List UInt8) : Int × Snd :=
  if (openS t).2 ≠ 0 then ((openS t).2, s)
  else if ¬ goodAck md (openS t).1 then (3, s)
  else if ackN md s.got ((openS t).1.getD 1 0).toNat = 0 ∨ s.all.length - s.got < ackN md s.got ((openS t).1.getD 1 0).toNat then (13, s)
  else (0, ⟨s.all, s.got + ackN md s.got ((openS t).1.getD 1 0).toNat, max s.sent (s.got + ackN md s.got ((openS t).1.getD 1 0).toNat)⟩)

theorem outL_len (md : Nat) : ∀ (l : List ByteArray) (i : Nat), (outL md i l).length = l.length
  | [], _ => rfl
  | b :: l, i => by unfold outL; rw [List.length_cons, outL_len md l, List.length_cons]
theorem outL_snoc (md : Nat) : ∀ (l : List ByteArray) (i : Nat) (b : ByteArray), outL md i (l ++ [b]) = outL md i l ++ [frameS md (i + l.length) b]
  | [], i, b => rfl
  | c :: l, i, b => by
    show frameS md i c :: outL md (i + 1) (l ++ [b]) = _
    rw [outL_snoc md l (i + 1) b, show i + 1 + l.length = i + (c :: l).length by rw [List.length_cons]; omega]; rfl
theorem put_snd_ok {md : Nat} {s : Snd} (h : SndOK md s) (b : ByteArray) : SndOK md (putS md s b).2 := by
  unfold putS
  by_cases c1 : 1500 < b.size
  · rw [if_pos c1]; exact h
  rw [if_neg c1]
  by_cases c2 : s.all.length - s.got = md - 1
  · rw [if_pos c2]; exact h
  rw [if_neg c2]
  have h1 := h.gs
  have h2 := h.sl
  have h3 := h.wd
  have h4 := h.mo
  refine ⟨h.mo, h.gs, by show s.sent ≤ (s.all ++ [b]).length; simp; omega, by show (s.all ++ [b]).length - s.got ≤ _; simp; omega, fun x hx => ?_⟩
  rcases List.mem_append.1 hx with hx | hx
  · exact h.bd x hx
  · obtain rfl : x = b := by simpa using hx
    omega
theorem ack_snd_ok {md : Nat} {s : Snd} (h : SndOK md s) (t : List UInt8) : SndOK md (ackS md s t).2 := by
  unfold ackS
  split
  · exact h
  split
  · exact h
  split
  · exact h
  rename_i c
  have h1 := h.gs
  have h2 := h.sl
  have h3 := h.wd
  generalize ackN md s.got ((openS t).1.getD 1 0).toNat = n at c ⊢
  refine ⟨h.mo, ?_, ?_, ?_, h.bd⟩
  · show s.got + n ≤ max s.sent (s.got + n); omega
  · show max s.sent (s.got + n) ≤ s.all.length; omega
  · show s.all.length - (s.got + n) ≤ md - 1; omega
theorem ackN_lt {md : Nat} (h : md = 8 ∨ md = 16) (g c : Nat) : ackN md g c < md := Nat.mod_lt _ (by omega)
theorem ackN_is {md : Nat} (h : md = 8 ∨ md = 16) (g c j : Nat) (hc : c < md) (hj : j < md) : (g + j) % md = c ↔ ackN md g c = j := by
  unfold ackN
  rcases h with rfl | rfl <;> omega
theorem ackN_base {md : Nat} (h : md = 8 ∨ md = 16) (g c : Nat) (hc : c < md) : (g + ackN md g c) % md = c := (ackN_is h g c _ hc (ackN_lt h g c)).2 rfl

/-! ### in memory -/
def cellsB (xs : List ByteArray) : List Value := xs.map Value.string
theorem cellsB_len (xs : List ByteArray) : (cellsB xs).length = xs.length * 1 := by simp [cellsB]
theorem cellsB_app (xs ys : List ByteArray) : cellsB (xs ++ ys) = cellsB xs ++ cellsB ys := by simp [cellsB]
theorem cellsB_get (xs : List ByteArray) (j : Nat) (h : j < xs.length) : (cellsB xs)[j]? = some (.string (xs.getD j ByteArray.empty)) := by
  simp [cellsB, List.getD_eq_getElem?_getD, List.getElem?_eq_getElem h]
theorem cellsB_one (xs : List ByteArray) : ∀ u ∈ cellsB xs, u.oneCell' = true := by
  intro u hu
  obtain ⟨x, _, rfl⟩ := List.mem_map.1 hu
  rfl
/-- The program's end: base, outstanding bodies, how many are not due. -/
def SAt (W : World) (B g md : Nat) (v : Value) (s : Snd) : Prop :=
  Blk W g #[.int .i64 (md : Int), .int .i64 ((s.got % md : Nat) : Int), v, .int .i64 ((s.sent - s.got : Nat) : Int)] 110 ∧ OwnAt W B 9 1 v (s.all.drop s.got).length (cellsB (s.all.drop s.got))
/-- The reference's. -/
def MAt (W : World) (B g md : Nat) (v : Value) (s : Snd) : Prop :=
  Blk W g #[.int .i64 (md : Int), v, .int .i64 (s.got : Int), .int .i64 (s.sent : Int)] 32 ∧ OwnAt W B 9 1 v s.all.length (cellsB s.all)
theorem infoT : (Try.prog.info? 9).map (fun i => (i.zero, i.size, i.bytes)) = some (some (Value.string ByteArray.empty), 1, 16) := by kernel_rfl
theorem srcB_new {P : Program} (W : World) {t TE e' : TypeId} (ht : P.underlying t = some (.slice e')) (b : ByteArray) : Src P 1 t (.slice (some ⟨W.heap.size, 0, none⟩) 1 1) 1 (cellsB [b]) (W.alloc (.cells #[.string b] TE)) :=
  Src.ofSlice _ ht ⟨W.heap.size, 0, none⟩ 1 1 _ rfl (by simpa [cellsB] using World.news_of_block (cs := #[.string b]) (t := TE) (fr := (0, 0)) (heap_alloc_new W _)) (cellsB_one _)
/-- A slice of strings, element by element. -/
theorem cellB {W : World} {B h o c n : Nat} {xs : List ByteArray} (H : OwnAt W B 9 1 (.slice (some ⟨h, o, none⟩) n c) n (cellsB xs)) {j : Nat} (hj : j < xs.length) : W.cell? ⟨h, o + j, none⟩ = some (.string (xs.getD j ByteArray.empty)) := by
  have := H.cells j _ (cellsB_get xs j hj)
  rwa [addr_plain] at this
theorem ownB_some {W : World} {B n : Nat} {v : Value} {xs : List Value} (H : OwnAt W B 9 1 v n xs) (h0 : 0 < n) : ∃ h o c, v = .slice (some ⟨h, o, none⟩) n c ∧ B ≤ h ∧ n ≤ c ∧ c ≤ maxLen := by
  rcases H.2 with ⟨_, hn⟩ | ⟨g, o, cap, cur, he, hb, hg, h1, h2, _⟩
  · omega
  · exact ⟨g, o, cap, he, hb, h1, h2⟩
end Go.Proofs.Ytfeddgeihpfjfab
