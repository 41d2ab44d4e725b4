/- package learn: New, at, fresh. -/
import Derived.Test.YtfeddgeihpfjfaaTab
import Derived.Deep.QuietTactic
import Derived.BigQuiet
import Derived.WalkLawsBesides
import Derived.Outline
set_option linter.unusedVariables false
set_option linter.unusedSimpArgs false
namespace Go.Proofs.Ytfeddgeihpfjfaa
open Go.RowKit Go.Proofs.YtfeddgeihpfjfaaW.PrintWords

theorem learnNew_ok (age room : Int) (w : World) (a0 : 1 ≤ age) (a1 : age ≤ 1000000000) (r0 : 1 ≤ room) (r1 : room ≤ 256) :
    Calls Try.prog 56 #[.int .i64 age, .int .i64 room] w fun e w' => e = .returned (.tuple #[.pointer (some ⟨w.heap.size, 0, none⟩), .int .i64 0]) ∧ w' = w.alloc (.cells #[.int .i64 age, .int .i64 room, .int .i64 0, .slice none 0 0] 168) := by
  go_enter Try.func56, Try.ntmps56
  go_wp2
  go_ret2
  exact ⟨rfl, rfl⟩
theorem learnNew_bad (age room : Int) (w : World) (h : age < 1 ∨ 1000000000 < age ∨ room < 1 ∨ 256 < room) :
    Calls Try.prog 56 #[.int .i64 age, .int .i64 room] w fun e w' => e = .returned (.tuple #[.pointer none, .int .i64 1]) ∧ w = w' := by
  by_cases c1 : age < 1
  · clear h
    go_enter Try.func56, Try.ntmps56
    go_wp2
    go_ret2
    exact ⟨rfl, rfl⟩
  by_cases c2 : 1000000000 < age
  · have c1' : 1 ≤ age := by omega
    clear h c1
    go_enter Try.func56, Try.ntmps56
    go_wp2
    go_ret2
    exact ⟨rfl, rfl⟩
  have c1' : 1 ≤ age := by omega
  have c2' : age ≤ 1000000000 := by omega
  by_cases c3 : room < 1
  · clear h c1 c2
    go_enter Try.func56, Try.ntmps56
    go_wp2
    go_ret2
    exact ⟨rfl, rfl⟩
  have c4 : 256 < room := by omega
  have c3' : 1 ≤ room := by omega
  clear h c1 c2 c3
  go_enter Try.func56, Try.ntmps56
  go_wp2
  go_ret2
  exact ⟨rfl, rfl⟩
theorem learnAt_any (g : Nat) (age room last now : Int) (v : Value) (w : World) (h : Blk w g #[.int .i64 age, .int .i64 room, .int .i64 last, v] 168) :
    Calls Try.prog 106 #[.pointer (some ⟨g, 0, none⟩), .int .i64 now] w fun e w' => e = .returned (.int .i64 (timeE last now)) ∧ w = w' := by
  have c2 := h.cell 2 rfl
  clear h
  by_cases c0 : now < 0
  · have hv : timeE last now = 1 := if_pos (.inl c0)
    rw [hv]; clear hv
    go_enter Try.func106, Try.ntmps106
    go_wp2
    go_ret
    exact ⟨rfl, rfl⟩
  have c0' : 0 ≤ now := by omega
  by_cases c1 : 1000000000 < now
  · have hv : timeE last now = 1 := if_pos (.inr c1)
    rw [hv]; clear hv c0
    go_enter Try.func106, Try.ntmps106
    go_wp2
    go_ret
    exact ⟨rfl, rfl⟩
  have c1' : now ≤ 1000000000 := by omega
  by_cases c3 : now < last
  · have hv : timeE last now = 13 := (if_neg (by omega)).trans (if_pos c3)
    rw [hv]; clear hv c0 c1
    go_enter Try.func106, Try.ntmps106
    go_wp2
    go_ret
    exact ⟨rfl, rfl⟩
  have hv : timeE last now = 0 := (if_neg (by omega)).trans (if_neg c3)
  rw [hv]; clear hv c0 c1
  go_enter Try.func106, Try.ntmps106
  go_wp2
  go_ret
  exact ⟨rfl, rfl⟩

theorem filt_step {es : List Ent} (f : Ent → Bool) {k : Nat} (h : k < es.length) : ((es.take (k + 1)).filter f = if f (es.getD k default) then (es.take k).filter f ++ [es.getD k default] else (es.take k).filter f) := by
  rw [filter_snoc f h]
  by_cases c : f (es.getD k default) = true
  · rw [if_pos c, if_pos c]
  · rw [if_neg c, if_neg c, List.append_nil]
theorem filt_len (es : List Ent) (f : Ent → Bool) (k : Nat) : ((es.take k).filter f).length ≤ es.length :=
  Nat.le_trans (List.length_filter_le _ _) (List.length_take_le' _ _)

set_option maxRecDepth 100000 in
set_option maxHeartbeats 2000000 in
theorem fresh_any (g : Nat) (age room last now : Int) (es : List Ent) (w : World) (h : Tab w g 168 170 age room last es) (hl : es.length ≤ 1000) (hb : ∀ x ∈ es, 0 ≤ x.s ∧ x.s ≤ 1000000000) (n0 : 0 ≤ now) (n1 : now ≤ 1000000000) :
    Calls Try.prog 107 #[.pointer (some ⟨g, 0, none⟩), .int .i64 now] w fun e w' => e = .returned (.tuple #[]) ∧ TabN w' w.heap.size g 168 170 age room now (freshL age now es) ∧ Fr (· = g) w w' := by
  obtain ⟨A, c, hc1, hc2, hk, he⟩ := h
  have hg := hk.lt
  have m0 := hk.cell 0 rfl
  have m1 := hk.cell 1 rfl
  have m2 := hk.cell 2 rfl
  have m3 := hk.cell 3 rfl
  have f2 := hk.free 2
  have HB := Lib.hid hb
  have HE := Lib.hid he
  have HK := Lib.hid hk
  clear hb he hk
  go_enter Try.func107, Try.ntmps107
  go_upto_region 1 with (fail)
  have HK0 : Hid (Blk (w.setCell ⟨g, 2, none⟩ (.int .i64 now)) g #[.int .i64 age, .int .i64 room, .int .i64 now, .slice A es.length c] 168) := by have h := HK.out.set 2 (.int .i64 now); exact h
  have HF0 : Hid (Fr (· = g) w (w.setCell ⟨g, 2, none⟩ (.int .i64 now))) := (Fr.refl _ _).set1 2 _
  have HE0 : Hid (Ents (w.setCell ⟨g, 2, none⟩ (.int .i64 now)) 170 A es) := HE.out.fr HF0.out (fun k hk cells hb => by subst hk; exact absurd (hb.type HK.out) (by decide))
  have hsz : Hid ((w.setCell ⟨g, 2, none⟩ (.int .i64 now)).heap.size = w.heap.size) := by show _ = _; simp [World.setCell]
  clear m0 m1 m2 m3 f2
  generalize w.setCell ⟨g, 2, none⟩ (.int .i64 now) = W0 at HK0 HF0 HE0 hsz ⊢
  have hgw : Hid (g < w.heap.size) := hg
  clear HE HK hg
  have m0 := HK0.out.cell 0 rfl
  have m3 := HK0.out.cell 3 rfl
  go_wp2
  clear m0 m3
  go_loopw [4, 16] (fun v i W => ∃ (k c9 : Nat) (A9 : Option Addr), k ≤ es.length ∧ i = .int .i64 k ∧ v = .slice A9 (freshL age now (es.take k)).length c9 ∧ Hid (W.ownsRow w.heap.size 170 3 (.slice A9 (freshL age now (es.take k)).length c9) (freshL age now (es.take k)).length (cellsE (freshL age now (es.take k)))) ∧ Hid (Below w.heap.size W0 W)) (fun _ i _ => es.length - (intOf i).toNat)
  case atStart => exact ⟨0, 0, none, by omega, rfl, rfl, own_nil _ _ _ _, Below.refl _ _⟩
  case round =>
    obtain ⟨k, c9, A9, hk, rfl, rfl, HO, HBL⟩ := hrel
    have hwsz : w.heap.size ≤ wr.heap.size := by have h1 := HBL.out.size; have h2 := hsz.out; omega
    by_cases hlt : k < es.length
    · have HEw : Hid (Ents wr 170 A es) := HE0.out.below HBL.out (Nat.le_of_eq hsz.out)
      obtain ⟨h, o, rfl, _, _⟩ := HEw.out.addr (by omega)
      obtain ⟨l0, l1, l2⟩ := HEw.out.cells hlt
      have hx := HB.out (es.getD k default) (by rw [List.getD_eq_getElem?_getD, List.getElem?_eq_getElem hlt]; exact List.getElem_mem hlt)
      have HST : Hid (freshL age now (es.take (k + 1)) = if decide (now - (es.getD k default).s < age) then freshL age now (es.take k) ++ [es.getD k default] else freshL age now (es.take k)) := filt_step _ hlt
      have HLN : Hid ((freshL age now (es.take k)).length ≤ es.length) := filt_len es _ k
      have hlt' : ((k : Int) < (es.length : Int)) = True := eq_true (by omega)
      generalize es.getD k default = x at *
      obtain ⟨xl, xp, xs⟩ := x
      simp only at l0 l1 l2 hx HST
      have hx0 := hx.1
      have hx1 := hx.2
      clear hx
      go_upto_region 5 with (fail)
      have HB2 : Hid (Below w.heap.size W0 (wr.alloc (.cells #[.int .i64 xl, .int .i64 xp, .int .i64 xs] 170))) := HBL.out.alloc hwsz _
      have HO2 : Hid ((wr.alloc (.cells #[.int .i64 xl, .int .i64 xp, .int .i64 xs] 170)).ownsRow w.heap.size 170 3 (.slice A9 (freshL age now (es.take k)).length c9) (freshL age now (es.take k)).length (cellsE (freshL age now (es.take k)))) := HO.out.alloc _
      have HQ : Hid (Blk (wr.alloc (.cells #[.int .i64 xl, .int .i64 xp, .int .i64 xs] 170)) wr.heap.size #[.int .i64 xl, .int .i64 xp, .int .i64 xs] 170) := Blk.new _ _ _
      clear l0 l1 l2 HO HBL HEw
      have hwsz2 : w.heap.size ≤ (wr.alloc (.cells #[.int .i64 xl, .int .i64 xp, .int .i64 xs] 170)).heap.size := by simp; omega
      generalize wr.alloc (.cells #[.int .i64 xl, .int .i64 xp, .int .i64 xs] 170) = W2 at HB2 HO2 HQ hwsz2 ⊢
      generalize wr.heap.size = b at HQ ⊢
      have q0 := HQ.out.cell 0 rfl
      have q1 := HQ.out.cell 1 rfl
      have q2 := HQ.out.cell 2 rfl
      have m0 := (blkB HB2.out hgw.out HK0.out).cell 0 rfl
      clear HQ hwsz
      by_cases cc : now - xs < age
      · have HS3 := Lib.hid (HST.out.trans (if_pos (decide_eq_true cc)))
        clear HST
        go_quiet (fail)
        go_wp2_with (at_builtin; have hl8 : ((freshL age now (es.take k)).length + 1) * 24 ≤ 140737488355328 := (by have := HLN.out; omega); refine print_append_cells w.heap.size rfl (.tmp 29) (.tmp 31) 166 170 _ 3 24 rfl Try.underlying166 infoE rfl (by omega) (by omega) _ _ _ [.int .i64 xl, .int .i64 xp, .int .i64 xs] rfl rfl rfl (by simp [Value.oneCell']) (pw_own_drewN HO2.out _) (below_drewN HB2.out _) hwsz2 hl8 ?_; intro v1 w1 hown hB hgr hat; have HO5 := Lib.hid hown; have HB5 := Lib.hid hB; clear hown hB hgr hat)
        obtain ⟨A5, c5, rfl⟩ := own_slice HO5.out
        go_roundw
        case rel => exact ⟨k + 1, c5, A5, by omega, by simp, by rw [HS3.out, List.length_append]; rfl, by show World.ownsRow _ _ _ _ _ _ _; rw [HS3.out, List.length_append, cellsE_app]; exact HO5.out, HB5⟩
        case measure => simp [intOf]; try omega
      · have HS3 := Lib.hid (HST.out.trans (if_neg (by simp; omega)))
        clear HST
        go_quiet (fail)
        go_wp2
        go_roundw
        case rel => exact ⟨k + 1, c9, A9, by omega, by simp, by rw [HS3.out], by show World.ownsRow _ _ _ _ _ _ _; rw [HS3.out]; exact pw_own_drewN HO2.out _, below_drewN HB2.out _⟩
        case measure => simp [intOf]; try omega
    · obtain rfl : k = es.length := by omega
      have HK9 : Hid (Blk wr g #[.int .i64 age, .int .i64 room, .int .i64 now, .slice A es.length c] 168) := blkB HBL.out hgw.out HK0.out
      have m3 := HK9.out.cell 3 rfl
      have f3 := HK9.out.free 3
      rw [List.take_length] at HO ⊢
      go_wp2
      go_end0
      exact ⟨rfl, tab_put HK9.out (OwnAt.of_row HO.out) hgw.out, fr_put HF0.out HBL.out 3 _⟩
end Go.Proofs.Ytfeddgeihpfjfaa
