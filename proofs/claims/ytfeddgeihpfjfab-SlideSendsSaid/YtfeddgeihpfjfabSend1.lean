/- The sending ends: New, Put, Left, Again. -/
import Derived.Test.YtfeddgeihpfjfabSendP
import Derived.Deep.QuietTactic
import Derived.BigQuiet
import Derived.WalkLawsBesides
import Derived.Outline
set_option linter.unusedVariables false
set_option linter.unusedSimpArgs false
namespace Go.Proofs.Ytfeddgeihpfjfab
open Go.RowKit Crc Go.Proofs.YtfeddgeihpfjfabW.PrintWords

theorem modulus_any (m : Int) (w : World) :
    Calls Try.prog 59 #[.int .i64 m] w fun e w' => e = .returned (.bool (m == 8 || m == 16)) ∧ w = w' := by
  by_cases h8 : m = 8
  · have q : (m == 8) = true := by simp [h8]
    clear h8
    go_enter Try.func59, Try.ntmps59
    go_wp2
    go_ret
    exact ⟨by rw [q]; rfl, rfl⟩
  · have q : (m == 8) = false := by simp [h8]
    clear h8
    go_enter Try.func59, Try.ntmps59
    go_wp2
    go_ret
    exact ⟨by rw [q]; rfl, rfl⟩
theorem newsend_ok (m : Int) (hm : (m == 8 || m == 16) = true) (w : World) :
    Calls Try.prog 10 #[.int .i64 m] w fun e w' => e = .returned (.tuple #[.pointer (some ⟨w.heap.size, 0, none⟩), .int .i64 0]) ∧ w' = w.alloc (.cells #[.int .i64 m, .int .i64 0, .slice none 0 0, .int .i64 0] 110) := by
  have HM : Hid (Calls Try.prog 59 #[.int .i64 m] w fun e w' => e = .returned (.bool true) ∧ w = w') := hm ▸ modulus_any m w
  clear hm
  go_enter Try.func10, Try.ntmps10
  go_wp2_with (go_at_call 59; ((with_reducible refine HM.out.mono ?_)); rintro e w1 ⟨rfl, rfl⟩)
  go_ret2
  exact ⟨rfl, rfl⟩
theorem newsend_bad (m : Int) (hm : (m == 8 || m == 16) = false) (w : World) :
    Calls Try.prog 10 #[.int .i64 m] w fun e w' => e = .returned (.tuple #[.pointer none, .int .i64 1]) ∧ w = w' := by
  have HM : Hid (Calls Try.prog 59 #[.int .i64 m] w fun e w' => e = .returned (.bool false) ∧ w = w') := hm ▸ modulus_any m w
  clear hm
  go_enter Try.func10, Try.ntmps10
  go_wp2_with (go_at_call 59; ((with_reducible refine HM.out.mono ?_)); rintro e w1 ⟨rfl, rfl⟩)
  go_ret2
  exact ⟨rfl, rfl⟩
theorem left_any (B g md : Nat) (v : Value) (s : Snd) (w : World) (h : SAt w B g md v s) :
    Calls Try.prog 12 #[.pointer (some ⟨g, 0, none⟩)] w fun e w' => e = .returned (.int .i64 ((s.all.length - s.got : Nat) : Int)) ∧ w = w' := by
  obtain ⟨hb, ho⟩ := h
  obtain ⟨A, c, rfl, _, _⟩ := ho.slice
  have m2 := hb.cell 2 rfl
  clear hb ho
  go_enter Try.func12, Try.ntmps12
  go_wp2
  go_ret
  exact ⟨rfl, rfl⟩
/-- What a call of an end may change: its block, and its row. -/
abbrev FrS (g : Nat) (v : Value) : World → World → Prop := Fr fun k => k = g ∨ v.ownBlock = some k
/-- Where its row lies then. -/
def RowAt (w : World) (v v' : Value) : Prop := v'.ownBlock = v.ownBlock ∨ v'.ownBlock = none ∨ ∃ k, v'.ownBlock = some k ∧ w.heap.size ≤ k
theorem again_any (B g md : Nat) (v : Value) (s : Snd) (w : World) (h : SAt w B g md v s) :
    Calls Try.prog 22 #[.pointer (some ⟨g, 0, none⟩)] w fun e w' => e = .returned (.tuple #[]) ∧ SAt w' B g md v ⟨s.all, s.got, s.got⟩ ∧ FrS g v w w' := by
  have HS := Lib.hid h
  obtain ⟨hb, ho⟩ := h
  have m3 := hb.cell 3 rfl
  have f3 := hb.free 3
  clear hb ho
  go_enter Try.func22, Try.ntmps22
  go_wp2
  go_end0
  refine ⟨rfl, ⟨?_, HS.out.2.setCell (HS.out.2.ne HS.out.1 (by decide)) _⟩, (Fr.refl _ _).setCell (.inl rfl) _⟩
  have h1 := HS.out.1.set 3 (.int .i64 0)
  rw [Nat.sub_self]; exact h1
theorem magain_any (B g md : Nat) (v : Value) (s : Snd) (w : World) (h : MAt w B g md v s) :
    Calls Try.prog 23 #[.pointer (some ⟨g, 0, none⟩)] w fun e w' => e = .returned (.tuple #[]) ∧ MAt w' B g md v ⟨s.all, s.got, s.got⟩ ∧ FrS g v w w' := by
  have HS := Lib.hid h
  obtain ⟨hb, ho⟩ := h
  have m2 := hb.cell 2 rfl
  have m3 := hb.cell 3 rfl
  have f3 := hb.free 3
  clear hb ho
  go_enter Try.func23, Try.ntmps23
  go_wp2
  go_end0
  refine ⟨rfl, ⟨?_, HS.out.2.setCell (HS.out.2.ne HS.out.1 (by decide)) _⟩, (Fr.refl _ _).setCell (.inl rfl) _⟩
  have h1 := HS.out.1.set 3 (.int .i64 (s.got : Int)); exact h1
theorem frs_put {w W : World} {g : Nat} {v : Value} {x : Value} (hg : (w.alloc (.cells #[x] 9)).grownBy W v.ownBlock) (i : Nat) (u : Value) : FrS g v w (W.setCell ⟨g, i, none⟩ u) := by
  refine Fr.setCell ?_ (.inl rfl) u
  refine ((Fr.refl _ w).alloc _).trans ⟨hg.os, hg.tape, hg.output, hg.size, fun k hk hn => hg.block k hk (fun e => hn (.inr e.symm))⟩

set_option maxHeartbeats 1000000 in
theorem put_any (B g md : Nat) (v : Value) (s : Snd) (hs : SndOK md s) (b : ByteArray) (w : World) (h : SAt w B g md v s) (hB : B ≤ w.heap.size) :
    Calls Try.prog 11 #[.pointer (some ⟨g, 0, none⟩), .string b] w fun e w' => e = .returned (.int .i64 (putS md s b).1) ∧ ∃ v', SAt w' B g md v' (putS md s b).2 ∧ FrS g v w w' ∧ RowAt w v v' := by
  have HS := Lib.hid h
  obtain ⟨hb, ho⟩ := h
  obtain ⟨A, c, rfl, hc1, hc2⟩ := ho.slice
  have m0 := hb.cell 0 rfl
  have m2 := hb.cell 2 rfl
  have f2 := hb.free 2
  have hl := List.length_drop (i := s.got) (l := s.all)
  have HL := Lib.hid hl
  have hwd := hs.wd
  have hgs := hs.gs
  have hsl := hs.sl
  have hmo := hs.mo
  clear hb ho
  by_cases c1 : 1500 < b.size
  · have e : putS md s b = (2, s) := if_pos c1
    rw [e]
    clear hl
    go_enter Try.func11, Try.ntmps11
    go_wp2
    go_ret
    exact ⟨rfl, _, HS.out, Fr.refl _ _, .inl rfl⟩
  by_cases c2 : s.all.length - s.got = md - 1
  · have e : putS md s b = (15, s) := (if_neg c1).trans (if_pos c2)
    rw [e]
    have q : (((s.all.drop s.got).length : Int) == (md : Int) - 1) = true := by rw [beq_iff_eq, hl]; omega
    have c1' : b.size ≤ 1500 := by omega
    generalize (s.all.drop s.got).length = n at *
    clear hl c1 c2 hwd hgs hsl
    go_enter Try.func11, Try.ntmps11
    go_wp2
    go_quiet (fail)
    go_wp2
    go_ret
    exact ⟨rfl, _, HS.out, (Fr.refl _ _).drewN _, .inl rfl⟩
  have e : putS md s b = (0, ⟨s.all ++ [b], s.got, s.sent⟩) := (if_neg c1).trans (if_neg c2)
  rw [e]
  have q : (((s.all.drop s.got).length : Int) == (md : Int) - 1) = false := by rw [beq_eq_false_iff_ne, hl]; omega
  have c1' : b.size ≤ 1500 := by omega
  have hn16 : (s.all.drop s.got).length ≤ 16 := by omega
  have HD : Hid ((s.all ++ [b]).drop s.got = s.all.drop s.got ++ [b]) := List.drop_append_of_le_length (by omega)
  clear hl c1 c2 hwd hgs hsl
  have HNE := Lib.hid (HS.out.2.ne HS.out.1 (by decide))
  have HO := Lib.hid HS.out.2
  generalize hds : s.all.drop s.got = ds at *
  go_enter Try.func11, Try.ntmps11
  go_wp2
  go_quiet (fail)
  go_upto_region 5 with (fail)
  have HK2 : Hid (Blk (w.drewN nq) g #[.int .i64 (md : Int), .int .i64 ((s.got % md : Nat) : Int), .slice A ds.length c, .int .i64 ((s.sent - s.got : Nat) : Int)] 110) := HS.out.1
  have HO2 : Hid (OwnAt (w.drewN nq) B 9 1 (.slice A ds.length c) ds.length (cellsB ds)) := HO.out
  have hwB : B ≤ (w.drewN nq).heap.size := hB
  have hwW : Hid (w.heap.size = (w.drewN nq).heap.size ∧ w.os = (w.drewN nq).os ∧ w.tape = (w.drewN nq).tape ∧ w.output = (w.drewN nq).output ∧ ∀ k : Nat, (w.drewN nq).heap[k]? = w.heap[k]?) := ⟨rfl, rfl, rfl, rfl, fun _ => rfl⟩
  clear m0 m2 f2 HS HO
  generalize w.drewN nq = W2 at HK2 HO2 hwB hwW ⊢
  have m2 := HK2.out.cell 2 rfl
  have hm1 : ds.length + 1 ≤ maxLen := by unfold maxLen; omega
  have hm2 : (ds.length + 1) * 16 ≤ 140737488355328 := by omega
  have hwq2 : B ≤ (W2.alloc (.cells #[.string b] 9)).heap.size := by rw [World.size_alloc]; omega
  go_wp2_with (at_builtin; refine wpList_append_at3 rfl (.tmp 23) (.tmp 25) 23 23 9 _ B 1 16 rfl Try.underlying23 infoT rfl (.slice A ds.length c) (.slice (some ⟨W2.heap.size, 0, none⟩) 1 1) ds.length 1 (cellsB ds) (cellsB [b]) rfl rfl (HO2.out.alloc _) (srcB_new W2 Try.underlying23 b) hm1 hm2 hwq2 ?_; intro v1 w9 hown hgr hat; obtain ⟨A9, c9, hv9, _, _⟩ := hown.slice; subst hv9; have HK9 := Lib.hid (blk_grown (HK2.out.alloc _) hgr HNE.out); have m9 := HK9.out.cell 2 rfl; have f9 := HK9.out.free 2; have HO5 := Lib.hid hown; have HG5 := Lib.hid hgr; have HA5 := Lib.hid hat; clear hown hgr hat)
  go_ret
  obtain ⟨z1, z2, z3, z4, z5⟩ := hwW.out
  refine ⟨rfl, .slice A9 (ds.length + 1) c9, ⟨by have h := HK9.out.set 2 (.slice A9 (ds.length + 1) c9); exact h, ?_⟩, ?_, ?_⟩
  · have h := HO5.out
    rw [← cellsB_app] at h
    show OwnAt _ _ _ _ _ ((s.all ++ [b]).drop s.got).length (cellsB ((s.all ++ [b]).drop s.got))
    rw [HD.out, List.length_append]
    exact h.setCell (h.ne (T := 110) HK9.out (by decide)) _
  · have h := frs_put HG5.out (g := g) 2 (.slice A9 (ds.length + 1) c9)
    exact ⟨h.os.trans z2.symm, h.tape.trans z3.symm, h.output.trans z4.symm, by have := h.size; omega, fun k hk hn => (h.block k (by omega) hn).trans (z5 k)⟩
  · rcases HA5.out with h | h
    · exact .inl h
    · exact .inr (.inr ⟨_, h, by rw [World.size_alloc]; omega⟩)
set_option maxHeartbeats 1000000 in
theorem mput_any (B g md : Nat) (v : Value) (s : Snd) (hs : SndOK md s) (hal : s.all.length ≤ 1000) (b : ByteArray) (w : World) (h : MAt w B g md v s) (hB : B ≤ w.heap.size) :
    Calls Try.prog 15 #[.pointer (some ⟨g, 0, none⟩), .string b] w fun e w' => e = .returned (.int .i64 (putS md s b).1) ∧ ∃ v', MAt w' B g md v' (putS md s b).2 ∧ FrS g v w w' ∧ RowAt w v v' := by
  have HS := Lib.hid h
  obtain ⟨hb, ho⟩ := h
  obtain ⟨A, c, rfl, hc1, hc2⟩ := ho.slice
  have m0 := hb.cell 0 rfl
  have m1 := hb.cell 1 rfl
  have m2 := hb.cell 2 rfl
  have f1 := hb.free 1
  have hwd := hs.wd
  have hgs := hs.gs
  have hsl := hs.sl
  have hmo := hs.mo
  clear hb ho
  by_cases c1 : 1500 < b.size
  · have e : putS md s b = (2, s) := if_pos c1
    rw [e]
    go_enter Try.func15, Try.ntmps15
    go_wp2
    go_ret
    exact ⟨rfl, _, HS.out, Fr.refl _ _, .inl rfl⟩
  by_cases c2 : s.all.length - s.got = md - 1
  · have e : putS md s b = (15, s) := (if_neg c1).trans (if_pos c2)
    rw [e]
    have q : (md : Int) - 1 ≤ (s.all.length : Int) - (s.got : Int) := by omega
    have c1' : b.size ≤ 1500 := by omega
    clear c1 c2 hwd
    go_enter Try.func15, Try.ntmps15
    go_wp2
    go_quiet (fail)
    go_wp2
    go_ret
    exact ⟨rfl, _, HS.out, (Fr.refl _ _).drewN _, .inl rfl⟩
  have e : putS md s b = (0, ⟨s.all ++ [b], s.got, s.sent⟩) := (if_neg c1).trans (if_neg c2)
  rw [e]
  have q : (s.all.length : Int) - (s.got : Int) < (md : Int) - 1 := by omega
  have c1' : b.size ≤ 1500 := by omega
  clear c1 c2 hwd
  have HNE := Lib.hid (HS.out.2.ne HS.out.1 (by decide))
  have HO := Lib.hid HS.out.2
  generalize hds : s.all = ds at *
  go_enter Try.func15, Try.ntmps15
  go_wp2
  go_quiet (fail)
  go_upto_region 5 with (fail)
  have HK2 : Hid (Blk (w.drewN nq) g #[.int .i64 (md : Int), .slice A ds.length c, .int .i64 (s.got : Int), .int .i64 (s.sent : Int)] 32) := HS.out.1
  have HO2 : Hid (OwnAt (w.drewN nq) B 9 1 (.slice A ds.length c) ds.length (cellsB ds)) := HO.out
  have hwB : B ≤ (w.drewN nq).heap.size := hB
  have hwW : Hid (w.heap.size = (w.drewN nq).heap.size ∧ w.os = (w.drewN nq).os ∧ w.tape = (w.drewN nq).tape ∧ w.output = (w.drewN nq).output ∧ ∀ k : Nat, (w.drewN nq).heap[k]? = w.heap[k]?) := ⟨rfl, rfl, rfl, rfl, fun _ => rfl⟩
  clear m0 m1 m2 f1 HO
  generalize w.drewN nq = W2 at HK2 HO2 hwB hwW ⊢
  have m1 := HK2.out.cell 1 rfl
  have hm1 : ds.length + 1 ≤ maxLen := by unfold maxLen; omega
  have hm2 : (ds.length + 1) * 16 ≤ 140737488355328 := by omega
  have hwq2 : B ≤ (W2.alloc (.cells #[.string b] 9)).heap.size := by rw [World.size_alloc]; omega
  go_wp2_with (at_builtin; refine wpList_append_at3 rfl (.tmp 28) (.tmp 30) 23 23 9 _ B 1 16 rfl Try.underlying23 infoT rfl (.slice A ds.length c) (.slice (some ⟨W2.heap.size, 0, none⟩) 1 1) ds.length 1 (cellsB ds) (cellsB [b]) rfl rfl (HO2.out.alloc _) (srcB_new W2 Try.underlying23 b) hm1 hm2 hwq2 ?_; intro v1 w9 hown hgr hat; obtain ⟨A9, c9, hv9, _, _⟩ := hown.slice; subst hv9; have HK9 := Lib.hid (blk_grown (HK2.out.alloc _) hgr HNE.out); have m9 := HK9.out.cell 1 rfl; have f9 := HK9.out.free 1; have HO5 := Lib.hid hown; have HG5 := Lib.hid hgr; have HA5 := Lib.hid hat; clear hown hgr hat)
  go_ret
  obtain ⟨z1, z2, z3, z4, z5⟩ := hwW.out
  refine ⟨rfl, .slice A9 (ds.length + 1) c9, ⟨by have h := HK9.out.set 1 (.slice A9 (ds.length + 1) c9); have e2 : (ds ++ [b]).length = ds.length + 1 := List.length_append; exact h, ?_⟩, ?_, ?_⟩
  · have h := HO5.out
    rw [← cellsB_app] at h
    show OwnAt _ _ _ _ _ (ds ++ [b]).length (cellsB (ds ++ [b]))
    rw [List.length_append]
    exact h.setCell (h.ne (T := 32) HK9.out (by decide)) _
  · have h := frs_put HG5.out (g := g) 1 (.slice A9 (ds.length + 1) c9)
    exact ⟨h.os.trans z2.symm, h.tape.trans z3.symm, h.output.trans z4.symm, by have := h.size; omega, fun k hk hn => (h.block k (by omega) hn).trans (z5 k)⟩
  · rcases HA5.out with h | h
    · exact .inl h
    · exact .inr (.inr ⟨_, h, by rw [World.size_alloc]; omega⟩)
end Go.Proofs.Ytfeddgeihpfjfab
