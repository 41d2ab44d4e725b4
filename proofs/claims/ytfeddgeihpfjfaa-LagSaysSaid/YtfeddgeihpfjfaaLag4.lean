/- Choose and Moved. -/
import Derived.Test.YtfeddgeihpfjfaaLag3
set_option linter.unusedSimpArgs false
set_option linter.unusedVariables false
namespace Go.Proofs.Ytfeddgeihpfjfaa
open Go.RowKit Crc

theorem memE_zero {l : List Int} (h : memE l = 0) : 0 < l.length := by
  unfold memE at h
  split at h
  · omega
  · split at h <;> omega

/-- What Choose answers, where the choice is c. -/
def chooseR (l : List Int) (c : Int) : Int × Int := if memE l ≠ 0 then (0, memE l) else (c, 0)

set_option maxRecDepth 100000 in
theorem chooseTop_any (c : Int) (A : Option Addr) (xs : List Int) (cap : Nat) (f : ByteArray) (w : World)
    (HK : Hid (Calls Try.prog 130 #[.slice A xs.length cap] w fun e w' => e = .returned (.int .i64 (memE xs)) ∧ w = w'))
    (HC : Hid (0 < xs.length → Calls Try.prog 131 #[.slice A xs.length cap, .string f] w fun e w' => e = .returned (.int .i64 c) ∧ Below w.heap.size w w')) :
    Calls Try.prog 84 #[.slice A xs.length cap, .string f] w fun e w' => e = .returned (.tuple #[.int .i64 (chooseR xs c).1, .int .i64 (chooseR xs c).2]) ∧ Below w.heap.size w w' := by
  have hz := fun h => memE_zero (l := xs) h
  have hr : chooseR xs c = if memE xs ≠ 0 then (0, memE xs) else (c, 0) := rfl
  generalize chooseR xs c = r at hr ⊢
  generalize memE xs = me at HK hz hr
  have HZ := Lib.hid hz
  have HR := Lib.hid hr
  clear hz hr
  by_cases c1 : me = 0
  · have HC2 := Lib.hid (HC.out (HZ.out c1))
    have hv : r = (c, 0) := by rw [HR.out, if_neg (by simpa using c1)]
    subst hv
    subst c1
    clear HZ HR HC
    generalize xs.length = L at *
    go_enter Try.func84, Try.ntmps84
    go_wp2_with (first
      | (go_at_call 130; ((with_reducible refine HK.out.mono ?_)); rintro e w1 ⟨rfl, rfl⟩)
      | (go_at_call 131; ((with_reducible refine HC2.out.mono ?_)); rintro e w2 ⟨rfl, hb2⟩; have HB2 := Lib.hid hb2; clear hb2))
    go_ret2
    exact ⟨rfl, HB2.out⟩
  · have q1 : (me != 0) = true := by simpa using c1
    have hv : r = (0, me) := by rw [HR.out, if_pos c1]
    subst hv
    clear HZ HR HC c1
    generalize xs.length = L at *
    go_enter Try.func84, Try.ntmps84
    go_wp2_with (go_at_call 130; ((with_reducible refine HK.out.mono ?_)); rintro e w1 ⟨rfl, rfl⟩)
    go_ret2
    exact ⟨rfl, Below.refl _ _⟩

/-- How many flows move. -/
def movedN (ca cb : ByteArray → Int) (l : List ByteArray) : Nat := (l.filter (fun f => ca f != cb f)).length
def movedR (a b : List Int) (ca cb : ByteArray → Int) (l : List ByteArray) : Int × Int :=
  if memE a ≠ 0 then (0, memE a) else if memE b ≠ 0 then (0, memE b) else if 256 < l.length then (0, 2) else (((movedN ca cb l : Nat) : Int), 0)
theorem moved_take (ca cb : ByteArray → Int) (l : List ByteArray) (k : Nat) (h : k < l.length) : movedN ca cb (l.take (k + 1)) = movedN ca cb (l.take k) + (if ca (l.getD k ByteArray.empty) = cb (l.getD k ByteArray.empty) then 0 else 1) := by
  have e : l.take (k + 1) = l.take k ++ [l.getD k ByteArray.empty] := by
    rw [List.take_add_one, List.getElem?_eq_getElem h, List.getD_eq_getElem?_getD, List.getElem?_eq_getElem h]; rfl
  unfold movedN
  rw [e, List.filter_append, List.length_append]
  generalize l.getD k ByteArray.empty = x
  by_cases hc : ca x = cb x
  · simp [List.filter_cons, hc]
  · simp [List.filter_cons, hc]

set_option maxRecDepth 100000 in
set_option maxHeartbeats 1000000 in
theorem moved_any (ca cb : ByteArray → Int) (A : Option Addr) (a : List Int) (cap : Nat) (A2 : Option Addr) (b : List Int) (cap2 : Nat) (A3 : Option Addr) (l : List ByteArray) (cap3 : Nat) (w : World) (HL : Hid (∀ W : World, Below w.heap.size w W → Strs w.heap.size W A3 l))
    (HK : Hid (Calls Try.prog 130 #[.slice A a.length cap] w fun e w' => e = .returned (.int .i64 (memE a)) ∧ w = w'))
    (HK2 : Hid (Calls Try.prog 130 #[.slice A2 b.length cap2] w fun e w' => e = .returned (.int .i64 (memE b)) ∧ w = w'))
    (HC : Hid (0 < a.length → ∀ (f : ByteArray) (W : World), f.size ≤ 9223372036854775807 → Below w.heap.size w W → Calls Try.prog 131 #[.slice A a.length cap, .string f] W fun e w' => e = .returned (.int .i64 (ca f)) ∧ Below W.heap.size W w'))
    (HC2 : Hid (0 < b.length → ∀ (f : ByteArray) (W : World), f.size ≤ 9223372036854775807 → Below w.heap.size w W → Calls Try.prog 131 #[.slice A2 b.length cap2, .string f] W fun e w' => e = .returned (.int .i64 (cb f)) ∧ Below W.heap.size W w')) :
    Calls Try.prog 85 #[.slice A a.length cap, .slice A2 b.length cap2, .slice A3 l.length cap3] w fun e w' => e = .returned (.tuple #[.int .i64 (movedR a b ca cb l).1, .int .i64 (movedR a b ca cb l).2]) ∧ Below w.heap.size w w' := by
  have hlen := (HL.out w (Below.refl _ _)).1
  have hz := fun h => memE_zero (l := a) h
  have hz2 := fun h => memE_zero (l := b) h
  have hr : movedR a b ca cb l = if memE a ≠ 0 then (0, memE a) else if memE b ≠ 0 then (0, memE b) else if 256 < l.length then (0, 2) else (((movedN ca cb l : Nat) : Int), 0) := rfl
  generalize movedR a b ca cb l = r at hr ⊢
  generalize memE a = me at HK hz hr
  generalize memE b = me2 at HK2 hz2 hr
  have HZ := Lib.hid hz
  have HZ2 := Lib.hid hz2
  have HR := Lib.hid hr
  clear hz hz2 hr
  by_cases c1 : me = 0
  · have HCa := Lib.hid (HC.out (HZ.out c1))
    have HR2 : Hid _ := HR.out.trans (if_neg (by simpa using c1))
    subst c1
    clear HZ HR HC
    generalize a.length = La at *
    by_cases c2 : me2 = 0
    · have HCb := Lib.hid (HC2.out (HZ2.out c2))
      have HR3 : Hid _ := HR2.out.trans (if_neg (by simpa using c2))
      subst c2
      clear HZ2 HR2 HC2
      generalize b.length = Lb at *
      by_cases c3 : 256 < l.length
      · have hv : r = (0, 2) := HR3.out.trans (if_pos c3)
        subst hv
        clear HR3
        go_enter Try.func85, Try.ntmps85
        go_wp2_with (first
          | (go_at_call 130; ((with_reducible refine HK.out.mono ?_)); rintro e w1 ⟨rfl, rfl⟩)
          | (go_at_call 130; ((with_reducible refine HK2.out.mono ?_)); rintro e w1 ⟨rfl, rfl⟩))
        go_ret2
        exact ⟨rfl, Below.refl _ _⟩
      · have hv : r = (((movedN ca cb l : Nat) : Int), 0) := HR3.out.trans (if_neg c3)
        subst hv
        clear HR3
        have c3' : l.length ≤ 256 := by omega
        clear c3
        go_enter Try.func85, Try.ntmps85
        go_wp2_with (first
          | (go_at_call 130; ((with_reducible refine HK.out.mono ?_)); rintro e w1 ⟨rfl, rfl⟩)
          | (go_at_call 130; ((with_reducible refine HK2.out.mono ?_)); rintro e w1 ⟨rfl, rfl⟩))
        go_loopw [10, 28] (fun z i W => ∃ k : Nat, k ≤ l.length ∧ z = .int .i64 ((movedN ca cb (l.take k) : Nat) : Int) ∧ i = .int .i64 k ∧ Hid (movedN ca cb (l.take k) ≤ k) ∧ Hid (Below w.heap.size w W)) (fun _ i _ => l.length - (intOf i).toNat)
        case atStart => exact ⟨0, by omega, rfl, rfl, by show _ ≤ _; simp [movedN], Below.refl _ _⟩
        case round =>
          obtain ⟨k, hk, rfl, rfl, HM, HB⟩ := hrel
          by_cases hlt : k < l.length
          · obtain ⟨ad, rfl, _, hc⟩ := (HL.out _ HB.out).2.2 (by omega)
            have hcell := hc k hlt
            clear hc
            have hsz : (l.getD k ByteArray.empty).size ≤ 9223372036854775807 := by
              rw [List.getD_eq_getElem?_getD, List.getElem?_eq_getElem hlt]; exact (HL.out _ HB.out).2.1 _ (List.getElem_mem hlt)
            have HT : Hid _ := moved_take ca cb l k hlt
            generalize l.getD k ByteArray.empty = f at hcell hsz HT
            have HSZ := Lib.hid hsz
            have HFa : Hid (∀ W : World, Below w.heap.size w W → Calls Try.prog 131 #[.slice A La cap, .string f] W fun e w' => e = .returned (.int .i64 (ca f)) ∧ Below W.heap.size W w') := fun W h => HCa.out f W HSZ.out h
            have HFb : Hid (∀ W : World, Below w.heap.size w W → Calls Try.prog 131 #[.slice A2 Lb cap2, .string f] W fun e w' => e = .returned (.int .i64 (cb f)) ∧ Below W.heap.size W w') := fun W h => HCb.out f W HSZ.out h
            clear hsz
            have hmk := HM.out
            generalize hcn : movedN ca cb (l.take k) = cn at HM HT hmk ⊢
            clear hcn
            generalize ca f = x at HFa HT
            generalize cb f = y at HFb HT
            by_cases c4 : x = y
            · have HT2 : Hid (movedN ca cb (l.take (k + 1)) = cn) := by have h := HT.out; rw [if_pos c4] at h; exact h
              have q4 : (x == y) = true := by simpa using c4
              have q5 : (x != y) = false := by simpa using c4
              clear HT c4
              go_wp2_with (first
                | (go_at_call 131; ((with_reducible refine (HFa.out _ HB.out).mono ?_)); rintro e w1 ⟨rfl, hb1⟩; have HB1 : Hid (Below w.heap.size w w1) := HB.out.trans (hb1.mono HB.out.size); clear hb1)
                | (go_at_call 131; ((with_reducible refine (HFb.out _ HB1.out).mono ?_)); rintro e w2 ⟨rfl, hb2⟩; have HB2 : Hid (Below w.heap.size w w2) := HB1.out.trans (hb2.mono HB1.out.size); clear hb2))
              go_roundw
              case rel => exact ⟨k + 1, by omega, by rw [HT2.out], by go_num, by rw [HT2.out]; have := HM.out; show _ ≤ _; omega, HB2.out⟩
              case measure => simp [intOf]; omega
            · have HT2 : Hid (movedN ca cb (l.take (k + 1)) = cn + 1) := by have h := HT.out; rw [if_neg c4] at h; exact h
              have q4 : (x == y) = false := by simpa using c4
              have q5 : (x != y) = true := by simpa using c4
              clear HT c4
              go_wp2_with (first
                | (go_at_call 131; ((with_reducible refine (HFa.out _ HB.out).mono ?_)); rintro e w1 ⟨rfl, hb1⟩; have HB1 : Hid (Below w.heap.size w w1) := HB.out.trans (hb1.mono HB.out.size); clear hb1)
                | (go_at_call 131; ((with_reducible refine (HFb.out _ HB1.out).mono ?_)); rintro e w2 ⟨rfl, hb2⟩; have HB2 : Hid (Below w.heap.size w w2) := HB1.out.trans (hb2.mono HB1.out.size); clear hb2))
              go_roundw
              case rel => exact ⟨k + 1, by omega, by rw [HT2.out]; go_num, by go_num, by rw [HT2.out]; have := HM.out; show _ ≤ _; omega, HB2.out⟩
              case measure => simp [intOf]; omega
          · have e1 : l.take k = l := List.take_of_length_le (by omega)
            rw [e1]
            generalize hcn : movedN ca cb l = cn
            have HCN := Lib.hid hcn
            clear HM e1 hcn
            go_wp2
            go_ret2
            exact ⟨by rw [HCN.out]; rfl, HB.out⟩
    · have q1 : (me2 != 0) = true := by simpa using c2
      have hv : r = (0, me2) := HR2.out.trans (if_pos c2)
      subst hv
      clear HZ2 HR2 HC2 c2
      generalize b.length = Lb at *
      go_enter Try.func85, Try.ntmps85
      go_wp2_with (first
        | (go_at_call 130; ((with_reducible refine HK.out.mono ?_)); rintro e w1 ⟨rfl, rfl⟩)
        | (go_at_call 130; ((with_reducible refine HK2.out.mono ?_)); rintro e w1 ⟨rfl, rfl⟩))
      go_ret2
      exact ⟨rfl, Below.refl _ _⟩
  · have q1 : (me != 0) = true := by simpa using c1
    have hv : r = (0, me) := HR.out.trans (if_pos c1)
    subst hv
    clear HZ HR HC c1
    generalize a.length = La at *
    go_enter Try.func85, Try.ntmps85
    go_wp2_with (go_at_call 130; ((with_reducible refine HK.out.mono ?_)); rintro e w1 ⟨rfl, rfl⟩)
    go_ret2
    exact ⟨rfl, Below.refl _ _⟩
end Go.Proofs.Ytfeddgeihpfjfaa
