/- The law LagSays. -/
import Derived.Test.YtfeddgeihpfjfaaLag4
import Derived.Test.YtfeddgeihpfjfaaPick
set_option linter.unusedSimpArgs false
set_option linter.unusedVariables false
namespace Go.Proofs.Ytfeddgeihpfjfaa
open Go.RowKit Crc

/-- The weight of a member for a flow. -/
def gw (f : ByteArray) (m : Int) : Int := wn (wgt (sum f.data.toList) m)

set_option maxRecDepth 100000 in
set_option maxHeartbeats 2000000 in
theorem lag_law (w : World) (A : Option Addr) (cap : Nat) (a : List Int) (ha : Ints w.heap.size w A a) (hac : a.length ≤ cap) (ham : cap ≤ maxLen) (A2 : Option Addr) (cap2 : Nat) (b : List Int) (hb : Ints w.heap.size w A2 b) (hbc : b.length ≤ cap2) (hbm : cap2 ≤ maxLen)
    (A3 : Option Addr) (cap3 : Nat) (l : List ByteArray) (hl : Strs w.heap.size w A3 l) (hlc : l.length ≤ cap3) (hlm : cap3 ≤ maxLen) (n : Int) (hn : I64 n) :
    Calls Try.prog 14 #[.slice A a.length cap, .slice A2 b.length cap2, .slice A3 l.length cap3, .int .i64 n] w fun e w' => e = .returned (.bool true) ∧ Below w.heap.size w w' := by
  have hlen := hl.1
  have HL : Hid (∀ W : World, Below w.heap.size w W → Strs w.heap.size W A3 l) := fun W h => hl.below h
  have HWA : Hid (∀ f : ByteArray, f.size ≤ 9223372036854775807 → ∀ (m : Int) (W : World), Calls Try.prog 87 #[.int .i64 m, .string f] W fun e w' => e = .returned (.int .u32 (gw f m)) ∧ Below W.heap.size W w') := fun f hf m W => weight_any m f hf W
  have HWB : Hid (∀ f : ByteArray, f.size ≤ 9223372036854775807 → ∀ (m : Int) (W : World), Calls Try.prog 88 #[.int .i64 m, .string f] W fun e w' => e = .returned (.int .u32 (gw f m)) ∧ Below W.heap.size W w') := fun f hf m W => weightOf_any m f hf W
  generalize gw = g at HWA HWB
  have HK : Hid (∀ W : World, Below w.heap.size w W → Calls Try.prog 130 #[.slice A a.length cap] W fun e w' => e = .returned (.int .i64 (memE a)) ∧ W = w') := fun W h => lagCheck_any A a cap hac ham W (ha.below h)
  have HK2 : Hid (∀ W : World, Below w.heap.size w W → Calls Try.prog 130 #[.slice A2 b.length cap2] W fun e w' => e = .returned (.int .i64 (memE b)) ∧ W = w') := fun W h => lagCheck_any A2 b cap2 hbc hbm W (hb.below h)
  have HM : Hid (∀ W : World, Below w.heap.size w W → Calls Try.prog 86 #[.slice A a.length cap] W fun e w' => e = .returned (.int .i64 (memE a)) ∧ W = w') := fun W h => membersErr_any A a cap hac ham W (ha.below h)
  have HM2 : Hid (∀ W : World, Below w.heap.size w W → Calls Try.prog 86 #[.slice A2 b.length cap2] W fun e w' => e = .returned (.int .i64 (memE b)) ∧ W = w') := fun W h => membersErr_any A2 b cap2 hbc hbm W (hb.below h)
  have HC : Hid (0 < a.length → ∀ (f : ByteArray) (W : World), f.size ≤ 9223372036854775807 → Below w.heap.size w W → Calls Try.prog 131 #[.slice A a.length cap, .string f] W fun e w' => e = .returned (.int .i64 (chosen (g f) a)) ∧ Below W.heap.size W w') := fun h0 f W hf h => choose_any (g f) A a cap hac ham h0 f (HWA.out f hf) W h.size (ha.below h)
  have HC2 : Hid (0 < b.length → ∀ (f : ByteArray) (W : World), f.size ≤ 9223372036854775807 → Below w.heap.size w W → Calls Try.prog 131 #[.slice A2 b.length cap2, .string f] W fun e w' => e = .returned (.int .i64 (chosen (g f) b)) ∧ Below W.heap.size W w') := fun h0 f W hf h => choose_any (g f) A2 b cap2 hbc hbm h0 f (HWA.out f hf) W h.size (hb.below h)
  have HD : Hid (0 < a.length → ∀ (f : ByteArray) (W : World), f.size ≤ 9223372036854775807 → Below w.heap.size w W → Calls Try.prog 89 #[.slice A a.length cap, .string f] W fun e w' => e = .returned (.int .i64 (chosen (g f) a)) ∧ Below W.heap.size W w') := fun h0 f W hf h => refChosen_any (g f) A a cap h0 f (HWB.out f hf) W h.size (ha.below h)
  have HD2 : Hid (0 < b.length → ∀ (f : ByteArray) (W : World), f.size ≤ 9223372036854775807 → Below w.heap.size w W → Calls Try.prog 89 #[.slice A2 b.length cap2, .string f] W fun e w' => e = .returned (.int .i64 (chosen (g f) b)) ∧ Below W.heap.size W w') := fun h0 f W hf h => refChosen_any (g f) A2 b cap2 h0 f (HWB.out f hf) W h.size (hb.below h)
  have HCH : Hid (∀ (f : ByteArray) (W : World), f.size ≤ 9223372036854775807 → Below w.heap.size w W → Calls Try.prog 84 #[.slice A a.length cap, .string f] W fun e w' => e = .returned (.tuple #[.int .i64 (chooseR a (chosen (g f) a)).1, .int .i64 (chooseR a (chosen (g f) a)).2]) ∧ Below W.heap.size W w') := fun f W hf h => chooseTop_any _ A a cap f W (HK.out W h) (fun h0 => HC.out h0 f W hf h)
  have HMV : Hid (∀ W : World, Below w.heap.size w W → Calls Try.prog 85 #[.slice A a.length cap, .slice A2 b.length cap2, .slice A3 l.length cap3] W fun e w' => e = .returned (.tuple #[.int .i64 (movedR a b (fun f => chosen (g f) a) (fun f => chosen (g f) b) l).1, .int .i64 (movedR a b (fun f => chosen (g f) a) (fun f => chosen (g f) b) l).2]) ∧ Below W.heap.size W w') := fun W h =>
    moved_any _ _ A a cap A2 b cap2 A3 l cap3 W (fun V hV => by
      have := HL.out V (h.trans (hV.mono h.size))
      exact ⟨this.1, this.2.1, fun h0 => by obtain ⟨ad, e, hB, hc⟩ := this.2.2 h0; exact ⟨ad, e, Nat.lt_of_lt_of_le hB h.size, hc⟩⟩) (HK.out W h) (HK2.out W h) (fun h0 f V hf hV => HC.out h0 f V hf (h.trans (hV.mono h.size))) (fun h0 f V hf hV => HC2.out h0 f V hf (h.trans (hV.mono h.size)))
  have H3 : Hid (∀ W : World, W.cell? ⟨w.heap.size, 0, none⟩ = some (.int .i64 3) → w.heap.size < W.heap.size → Calls Try.prog 84 #[.slice (some ⟨w.heap.size, 0, none⟩) 1 1, .string ⟨#[120]⟩] W fun e w' => e = .returned (.tuple #[.int .i64 3, .int .i64 0]) ∧ Below W.heap.size W w') := fun W hc hs => by
    have hI : Ints W.heap.size W (some ⟨w.heap.size, 0, none⟩) [3] := ⟨by simp, fun x hx => by obtain rfl := List.mem_singleton.1 hx; exact ⟨by decide, by decide⟩, fun _ => ⟨_, rfl, hs, fun j hj => by
      have hj0 : j = 0 := by simpa using hj
      subst hj0
      rw [Addr.add_zero']; exact hc⟩⟩
    exact chooseTop_any 3 _ [3] 1 ⟨#[120]⟩ W (lagCheck_any _ [3] 1 (by simp) (by simp [maxLen]) W hI) (fun h0 => choose_any (g ⟨#[120]⟩) _ [3] 1 (by simp) (by simp [maxLen]) h0 _ (HWA.out _ (by decide)) W (Nat.le_refl _) hI)
  have HPK : Hid (∀ W : World, Below w.heap.size w W → Calls Try.prog 35 #[.slice A3 l.length cap3, .int .i64 n] W (SomeText 2000 W)) := fun W h => pick_any A3 l cap3 n W (HL.out W h)
  have hz := fun h => memE_zero (l := a) h
  have hz2 := fun h => memE_zero (l := b) h
  have HCR : Hid (∀ c, chooseR a c = if memE a ≠ 0 then (0, memE a) else (c, 0)) := fun c => rfl
  have HMR : Hid (movedR a b (fun f => chosen (g f) a) (fun f => chosen (g f) b) l = if memE a ≠ 0 then (0, memE a) else if memE b ≠ 0 then (0, memE b) else if 256 < l.length then (0, 2) else (((movedN (fun f => chosen (g f) a) (fun f => chosen (g f) b) l : Nat) : Int), 0)) := rfl
  have HMT : Hid (∀ k, k < l.length → movedN (fun f => chosen (g f) a) (fun f => chosen (g f) b) (l.take (k + 1)) = movedN (fun f => chosen (g f) a) (fun f => chosen (g f) b) (l.take k) + (if chosen (g (l.getD k ByteArray.empty)) a = chosen (g (l.getD k ByteArray.empty)) b then 0 else 1)) := fun k hk => moved_take _ _ l k hk
  clear ha hb hl hac ham hbc hbm HK HK2 HC HC2
  generalize movedR a b (fun f => chosen (g f) a) (fun f => chosen (g f) b) l = mr at HMV HMR
  generalize hmn : movedN (fun f => chosen (g f) a) (fun f => chosen (g f) b) = mn at HMR HMT
  have HMN0 : Hid (mn [] = 0) := by rw [← hmn]; rfl
  clear hmn
  generalize memE a = me at HM HCR HMR hz
  generalize memE b = me2 at HM2 HMR hz2
  have HZ := Lib.hid hz
  have HZ2 := Lib.hid hz2
  clear hz hz2
  generalize a.length = La at *
  generalize b.length = Lb at *
  by_cases c1 : me = 0
  · have HD1 := Lib.hid (HD.out (HZ.out c1))
    have HCH1 : Hid (∀ (f : ByteArray) (W : World), f.size ≤ 9223372036854775807 → Below w.heap.size w W → Calls Try.prog 84 #[.slice A La cap, .string f] W fun e w' => e = .returned (.tuple #[.int .i64 (chosen (g f) a), .int .i64 0]) ∧ Below W.heap.size W w') := fun f W hf h => by have z := HCH.out f W hf h; rw [HCR.out, if_neg (by simpa using c1)] at z; exact z
    have HMR2 : Hid _ := HMR.out.trans (if_neg (by simpa using c1))
    subst c1
    clear HZ HD HCR HCH HMR
    by_cases c2 : me2 = 0
    · have HD3 := Lib.hid (HD2.out (HZ2.out c2))
      have HMR3 : Hid _ := HMR2.out.trans (if_neg (by simpa using c2))
      subst c2
      clear HZ2 HD2 HMR2
      by_cases c3 : 256 < l.length
      · have HMV1 : Hid (∀ W : World, Below w.heap.size w W → Calls Try.prog 85 #[.slice A La cap, .slice A2 Lb cap2, .slice A3 l.length cap3] W fun e w' => e = .returned (.tuple #[.int .i64 0, .int .i64 2]) ∧ Below W.heap.size W w') := fun W h => by have z := HMV.out W h; rw [HMR3.out, if_pos c3] at z; exact z
        clear HMR3 HMV
        go_enter Try.func14, Try.ntmps14
        go_wp2_with (first
          | (go_at_call 84; ((with_reducible refine (H3.out _ (by simp [go_sem]) (by simp)).mono ?_)); rintro e w1 ⟨rfl, hb1⟩; have HB1 : Hid (Below w.heap.size w w1) := below_of_alloc' hb1; clear hb1)
          | (go_at_call 35; ((with_reducible refine (HPK.out _ HB1.out).mono ?_)); rintro e w2 ⟨x, hx, rfl, rfl⟩)
          | (go_at_call 84; ((with_reducible refine (HCH1.out x _ (by omega) HB1.out).mono ?_)); rintro e w3 ⟨rfl, hb3⟩; have HB3 : Hid (Below w.heap.size w w3) := HB1.out.trans (hb3.mono HB1.out.size); clear hb3)
          | (go_at_call 85; ((with_reducible refine (HMV1.out _ HB3.out).mono ?_)); rintro e w4 ⟨rfl, hb4⟩; have HB4 : Hid (Below w.heap.size w w4) := HB3.out.trans (hb4.mono HB3.out.size); clear hb4)
          | (go_at_call 86; ((with_reducible refine (HM.out _ HB4.out).mono ?_)); rintro e w5 ⟨rfl, rfl⟩)
          | (go_at_call 87; ((with_reducible refine (HWA.out x (by omega) n _).mono ?_)); rintro e w6 ⟨rfl, hb6⟩; have HB6 : Hid (Below w.heap.size w w6) := HB4.out.trans (hb6.mono HB4.out.size); clear hb6)
          | (go_at_call 88; ((with_reducible refine (HWB.out x (by omega) n _).mono ?_)); rintro e w7 ⟨rfl, hb7⟩; have HB7 : Hid (Below w.heap.size w w7) := HB6.out.trans (hb7.mono HB6.out.size); clear hb7)
          | (go_at_call 89; ((with_reducible refine (HD1.out x _ (by omega) HB7.out).mono ?_)); rintro e w8 ⟨rfl, hb8⟩; have HB8 : Hid (Below w.heap.size w w8) := HB7.out.trans (hb8.mono HB7.out.size); clear hb8)
          | (go_at_call 86; ((with_reducible refine (HM2.out _ HB8.out).mono ?_)); rintro e w9 ⟨rfl, rfl⟩))
        go_ret
        exact ⟨rfl, HB8.out⟩
      · have HMV1 : Hid (∀ W : World, Below w.heap.size w W → Calls Try.prog 85 #[.slice A La cap, .slice A2 Lb cap2, .slice A3 l.length cap3] W fun e w' => e = .returned (.tuple #[.int .i64 ((mn l : Nat) : Int), .int .i64 0]) ∧ Below W.heap.size W w') := fun W h => by have z := HMV.out W h; rw [HMR3.out, if_neg c3] at z; exact z
        clear HMR3 HMV
        have c3' : l.length ≤ 256 := by omega
        clear c3
        go_enter Try.func14, Try.ntmps14
        go_wp2_with (first
          | (go_at_call 84; ((with_reducible refine (H3.out _ (by simp [go_sem]) (by simp)).mono ?_)); rintro e w1 ⟨rfl, hb1⟩; have HB1 : Hid (Below w.heap.size w w1) := below_of_alloc' hb1; clear hb1)
          | (go_at_call 35; ((with_reducible refine (HPK.out _ HB1.out).mono ?_)); rintro e w2 ⟨x, hx, rfl, rfl⟩)
          | (go_at_call 84; ((with_reducible refine (HCH1.out x _ (by omega) HB1.out).mono ?_)); rintro e w3 ⟨rfl, hb3⟩; have HB3 : Hid (Below w.heap.size w w3) := HB1.out.trans (hb3.mono HB1.out.size); clear hb3)
          | (go_at_call 85; ((with_reducible refine (HMV1.out _ HB3.out).mono ?_)); rintro e w4 ⟨rfl, hb4⟩; have HB4 : Hid (Below w.heap.size w w4) := HB3.out.trans (hb4.mono HB3.out.size); clear hb4)
          | (go_at_call 86; ((with_reducible refine (HM.out _ HB4.out).mono ?_)); rintro e w5 ⟨rfl, rfl⟩)
          | (go_at_call 87; ((with_reducible refine (HWA.out x (by omega) n _).mono ?_)); rintro e w6 ⟨rfl, hb6⟩; have HB6 : Hid (Below w.heap.size w w6) := HB4.out.trans (hb6.mono HB4.out.size); clear hb6)
          | (go_at_call 88; ((with_reducible refine (HWB.out x (by omega) n _).mono ?_)); rintro e w7 ⟨rfl, hb7⟩; have HB7 : Hid (Below w.heap.size w w7) := HB6.out.trans (hb7.mono HB6.out.size); clear hb7)
          | (go_at_call 89; ((with_reducible refine (HD1.out x _ (by omega) HB7.out).mono ?_)); rintro e w8 ⟨rfl, hb8⟩; have HB8 : Hid (Below w.heap.size w w8) := HB7.out.trans (hb8.mono HB7.out.size); clear hb8)
          | (go_at_call 86; ((with_reducible refine (HM2.out _ HB8.out).mono ?_)); rintro e w9 ⟨rfl, rfl⟩))
        go_loopw [17, 103] (fun z i W => ∃ k : Nat, k ≤ l.length ∧ z = .int .i64 ((mn (l.take k) : Nat) : Int) ∧ i = .int .i64 k ∧ Hid (mn (l.take k) ≤ k) ∧ Hid (Below w.heap.size w W)) (fun _ i _ => l.length - (intOf i).toNat)
        case atStart => exact ⟨0, by omega, by rw [List.take_zero, HMN0.out]; rfl, rfl, by rw [List.take_zero, HMN0.out]; exact Nat.le_refl _, HB8.out⟩
        case round =>
          clear HB1 HB3 HB4 HB6 HB7 HB8
          obtain ⟨k, hk, rfl, rfl, HN, HB⟩ := hrel
          by_cases hlt : k < l.length
          · obtain ⟨ad, rfl, _, hc⟩ := (HL.out _ HB.out).2.2 (by omega)
            have hcell := hc k hlt
            clear hc
            have hsz : (l.getD k ByteArray.empty).size ≤ 9223372036854775807 := by
              rw [List.getD_eq_getElem?_getD, List.getElem?_eq_getElem hlt]; exact (HL.out _ HB.out).2.1 _ (List.getElem_mem hlt)
            have HT : Hid _ := HMT.out k hlt
            generalize l.getD k ByteArray.empty = f at hcell hsz HT
            have HSZ := Lib.hid hsz
            have HFa : Hid (∀ W : World, Below w.heap.size w W → Calls Try.prog 89 #[.slice A La cap, .string f] W fun e w' => e = .returned (.int .i64 (chosen (g f) a)) ∧ Below W.heap.size W w') := fun W h => HD1.out f W HSZ.out h
            have HFb : Hid (∀ W : World, Below w.heap.size w W → Calls Try.prog 89 #[.slice A2 Lb cap2, .string f] W fun e w' => e = .returned (.int .i64 (chosen (g f) b)) ∧ Below W.heap.size W w') := fun W h => HD3.out f W HSZ.out h
            clear hsz
            have hmk := HN.out
            generalize hcn : mn (l.take k) = cn at HN HT hmk ⊢
            clear hcn
            generalize chosen (g f) a = x1 at HFa HT
            generalize chosen (g f) b = y1 at HFb HT
            by_cases c4 : x1 = y1
            · have HT2 : Hid (mn (l.take (k + 1)) = cn) := by have h := HT.out; rw [if_pos c4] at h; exact h
              have q4 : (x1 == y1) = true := by simpa using c4
              have q5 : (x1 != y1) = false := by simpa using c4
              clear HT c4
              go_wp2_with (first
                | (go_at_call 89; ((with_reducible refine (HFa.out _ HB.out).mono ?_)); rintro e w1 ⟨rfl, hb1⟩; have HB1 : Hid (Below w.heap.size w w1) := HB.out.trans (hb1.mono HB.out.size); clear hb1)
                | (go_at_call 89; ((with_reducible refine (HFb.out _ HB1.out).mono ?_)); rintro e w2 ⟨rfl, hb2⟩; have HB2 : Hid (Below w.heap.size w w2) := HB1.out.trans (hb2.mono HB1.out.size); clear hb2))
              go_roundw
              case rel => exact ⟨k + 1, by omega, by rw [HT2.out], by go_num, by rw [HT2.out]; have := HN.out; show _ ≤ _; omega, HB2.out⟩
              case measure => simp [intOf]; omega
            · have HT2 : Hid (mn (l.take (k + 1)) = cn + 1) := by have h := HT.out; rw [if_neg c4] at h; exact h
              have q4 : (x1 == y1) = false := by simpa using c4
              have q5 : (x1 != y1) = true := by simpa using c4
              clear HT c4
              go_wp2_with (first
                | (go_at_call 89; ((with_reducible refine (HFa.out _ HB.out).mono ?_)); rintro e w1 ⟨rfl, hb1⟩; have HB1 : Hid (Below w.heap.size w w1) := HB.out.trans (hb1.mono HB.out.size); clear hb1)
                | (go_at_call 89; ((with_reducible refine (HFb.out _ HB1.out).mono ?_)); rintro e w2 ⟨rfl, hb2⟩; have HB2 : Hid (Below w.heap.size w w2) := HB1.out.trans (hb2.mono HB1.out.size); clear hb2))
              go_roundw
              case rel => exact ⟨k + 1, by omega, by rw [HT2.out]; go_num, by go_num, by rw [HT2.out]; have := HN.out; show _ ≤ _; omega, HB2.out⟩
              case measure => simp [intOf]; omega
          · have e1 : l.take k = l := List.take_of_length_le (by omega)
            rw [e1]
            generalize mn l = cn
            clear HN e1
            go_wp2
            go_ret
            exact ⟨rfl, HB.out⟩
    · have q1 : (me2 != 0) = true := by simpa using c2
      have q1' : (me2 == 0) = false := by simpa using c2
      have HMV1 : Hid (∀ W : World, Below w.heap.size w W → Calls Try.prog 85 #[.slice A La cap, .slice A2 Lb cap2, .slice A3 l.length cap3] W fun e w' => e = .returned (.tuple #[.int .i64 0, .int .i64 me2]) ∧ Below W.heap.size W w') := fun W h => by have z := HMV.out W h; rw [HMR2.out, if_pos c2] at z; exact z
      clear HMR2 HMV HZ2 HD2 c2
      go_enter Try.func14, Try.ntmps14
      go_wp2_with (first
        | (go_at_call 84; ((with_reducible refine (H3.out _ (by simp [go_sem]) (by simp)).mono ?_)); rintro e w1 ⟨rfl, hb1⟩; have HB1 : Hid (Below w.heap.size w w1) := below_of_alloc' hb1; clear hb1)
        | (go_at_call 35; ((with_reducible refine (HPK.out _ HB1.out).mono ?_)); rintro e w2 ⟨x, hx, rfl, rfl⟩)
        | (go_at_call 84; ((with_reducible refine (HCH1.out x _ (by omega) HB1.out).mono ?_)); rintro e w3 ⟨rfl, hb3⟩; have HB3 : Hid (Below w.heap.size w w3) := HB1.out.trans (hb3.mono HB1.out.size); clear hb3)
        | (go_at_call 85; ((with_reducible refine (HMV1.out _ HB3.out).mono ?_)); rintro e w4 ⟨rfl, hb4⟩; have HB4 : Hid (Below w.heap.size w w4) := HB3.out.trans (hb4.mono HB3.out.size); clear hb4)
        | (go_at_call 86; ((with_reducible refine (HM.out _ HB4.out).mono ?_)); rintro e w5 ⟨rfl, rfl⟩)
        | (go_at_call 87; ((with_reducible refine (HWA.out x (by omega) n _).mono ?_)); rintro e w6 ⟨rfl, hb6⟩; have HB6 : Hid (Below w.heap.size w w6) := HB4.out.trans (hb6.mono HB4.out.size); clear hb6)
        | (go_at_call 88; ((with_reducible refine (HWB.out x (by omega) n _).mono ?_)); rintro e w7 ⟨rfl, hb7⟩; have HB7 : Hid (Below w.heap.size w w7) := HB6.out.trans (hb7.mono HB6.out.size); clear hb7)
        | (go_at_call 89; ((with_reducible refine (HD1.out x _ (by omega) HB7.out).mono ?_)); rintro e w8 ⟨rfl, hb8⟩; have HB8 : Hid (Below w.heap.size w w8) := HB7.out.trans (hb8.mono HB7.out.size); clear hb8)
        | (go_at_call 86; ((with_reducible refine (HM2.out _ HB8.out).mono ?_)); rintro e w9 ⟨rfl, rfl⟩))
      go_ret
      exact ⟨rfl, HB8.out⟩
  · have q1 : (me != 0) = true := by simpa using c1
    have HCH1 : Hid (∀ (f : ByteArray) (W : World), f.size ≤ 9223372036854775807 → Below w.heap.size w W → Calls Try.prog 84 #[.slice A La cap, .string f] W fun e w' => e = .returned (.tuple #[.int .i64 0, .int .i64 me]) ∧ Below W.heap.size W w') := fun f W hf h => by have z := HCH.out f W hf h; rw [HCR.out, if_pos c1] at z; exact z
    have HMV1 : Hid (∀ W : World, Below w.heap.size w W → Calls Try.prog 85 #[.slice A La cap, .slice A2 Lb cap2, .slice A3 l.length cap3] W fun e w' => e = .returned (.tuple #[.int .i64 0, .int .i64 me]) ∧ Below W.heap.size W w') := fun W h => by have z := HMV.out W h; rw [HMR.out, if_pos c1] at z; exact z
    have HD1 : Hid True := trivial
    clear HMR HMV HCR HCH HZ HD HZ2 HD2 c1
    go_enter Try.func14, Try.ntmps14
    go_wp2_with (first
      | (go_at_call 84; ((with_reducible refine (H3.out _ (by simp [go_sem]) (by simp)).mono ?_)); rintro e w1 ⟨rfl, hb1⟩; have HB1 : Hid (Below w.heap.size w w1) := below_of_alloc' hb1; clear hb1)
      | (go_at_call 35; ((with_reducible refine (HPK.out _ HB1.out).mono ?_)); rintro e w2 ⟨x, hx, rfl, rfl⟩)
      | (go_at_call 84; ((with_reducible refine (HCH1.out x _ (by omega) HB1.out).mono ?_)); rintro e w3 ⟨rfl, hb3⟩; have HB3 : Hid (Below w.heap.size w w3) := HB1.out.trans (hb3.mono HB1.out.size); clear hb3)
      | (go_at_call 85; ((with_reducible refine (HMV1.out _ HB3.out).mono ?_)); rintro e w4 ⟨rfl, hb4⟩; have HB4 : Hid (Below w.heap.size w w4) := HB3.out.trans (hb4.mono HB3.out.size); clear hb4)
      | (go_at_call 86; ((with_reducible refine (HM.out _ HB4.out).mono ?_)); rintro e w5 ⟨rfl, rfl⟩)
      | (go_at_call 87; ((with_reducible refine (HWA.out x (by omega) n _).mono ?_)); rintro e w6 ⟨rfl, hb6⟩; have HB6 : Hid (Below w.heap.size w w6) := HB4.out.trans (hb6.mono HB4.out.size); clear hb6)
      | (go_at_call 88; ((with_reducible refine (HWB.out x (by omega) n _).mono ?_)); rintro e w7 ⟨rfl, hb7⟩; have HB7 : Hid (Below w.heap.size w w7) := HB6.out.trans (hb7.mono HB6.out.size); clear hb7)
      | (go_at_call 89; ((with_reducible refine (HD1.out).mono ?_)); rintro e w8 ⟨rfl, hb8⟩; have HB8 : Hid (Below w.heap.size w w8) := HB7.out.trans (hb8.mono HB7.out.size); clear hb8)
      | (go_at_call 86; ((with_reducible refine (HM2.out _ HB8.out).mono ?_)); rintro e w9 ⟨rfl, rfl⟩))
    go_ret
    exact ⟨rfl, HB7.out⟩
end Go.Proofs.Ytfeddgeihpfjfaa
