/- In and out of a port. -/
import Derived.Test.YtfeddgeihpfjfaaTag
set_option linter.unusedSimpArgs false
set_option linter.unusedVariables false
namespace Go.Proofs.Ytfeddgeihpfjfaa
open Go.RowKit

/-- The network of a frame that comes in, and the refusal. -/
def inTag (a : Int) (xs : List Int) (t pe fe : Int) : Int × Int :=
  if pe ≠ 0 then (0, pe) else if fe ≠ 0 then (0, fe) else if t = 0 ∧ 0 < a then (a, 0) else if 0 < t ∧ t ∈ xs then (t, 0) else (0, 14)

theorem portE_zero {a : Int} {xs : List Int} (h : portE a xs = 0) : 0 ≤ a ∧ a ≤ 4094 := by
  unfold portE at h
  split at h <;> omega
theorem frameE_zero {d s t y : Int} {b : Nat} (h : frameE d s t y b = 0) : 0 ≤ t ∧ t ≤ 4094 := by
  unfold frameE at h
  repeat' split at h
  all_goals omega

set_option maxRecDepth 100000 in
set_option maxHeartbeats 1000000 in
theorem tagIn_any (a : Int) (A : Option Addr) (xs : List Int) (cap : Nat) (d s t y : Int) (b : ByteArray) (hs : I64 s) (w : World) {B : Nat} (hB : B ≤ w.heap.size) (h : Ints B w A xs) :
    Calls Try.prog 51 #[.agg #[.int .i64 a, .slice A xs.length cap], .agg #[.int .i64 d, .int .i64 s, .int .i64 t, .int .i64 y, .string b]] w fun e w' =>
      e = .returned (.tuple #[.int .i64 (inTag a xs t (portE a xs) (frameE d s t y b.size)).1, .int .i64 (inTag a xs t (portE a xs) (frameE d s t y b.size)).2]) ∧ Below w.heap.size w w' := by
  have HX : Hid (∀ W : World, Below B w W → Ints B W A xs) := fun W hb => h.below hb
  have HP : Hid (∀ W : World, B ≤ W.heap.size → Ints B W A xs → Calls Try.prog 71 #[.agg #[.int .i64 a, .slice A xs.length cap]] W fun e w' => e = .returned (.int .i64 (portE a xs)) ∧ Below W.heap.size W w') := fun W hB h => tagCheck_any a A xs cap W hB h
  have HF : Hid (∀ W : World, Calls Try.prog 102 #[.agg #[.int .i64 d, .int .i64 s, .int .i64 t, .int .i64 y, .string b]] W fun e w' => e = .returned (.int .i64 (frameE d s t y b.size)) ∧ Below W.heap.size W w') := fun W => frameCheck_any d s t y b hs W
  have HC : Hid (∀ W : World, Ints B W A xs → Calls Try.prog 103 #[.slice A xs.length cap, .int .i64 t] W fun e w' => e = .returned (.bool (decide (t ∈ xs))) ∧ W = w') := fun W h => contains_any A xs cap t W h
  clear h
  have hpe := fun h => portE_zero (a := a) (xs := xs) h
  have hfe := fun h => frameE_zero (d := d) (s := s) (t := t) (y := y) (b := b.size) h
  have hin : inTag a xs t (portE a xs) (frameE d s t y b.size) = if portE a xs ≠ 0 then (0, portE a xs) else if frameE d s t y b.size ≠ 0 then (0, frameE d s t y b.size) else if t = 0 ∧ 0 < a then (a, 0) else if 0 < t ∧ decide (t ∈ xs) = true then (t, 0) else (0, 14) := by simp [inTag]
  generalize inTag a xs t (portE a xs) (frameE d s t y b.size) = v at hin ⊢
  generalize portE a xs = pe at HP hpe hin
  generalize frameE d s t y b.size = fe at HF hfe hin
  generalize decide (t ∈ xs) = c at HC hin
  generalize hL : xs.length = L at *
  have HPE := Lib.hid hpe
  have HFE := Lib.hid hfe
  have HIN := Lib.hid hin
  clear hpe hfe hin hL
  by_cases c1 : pe = 0
  · subst c1
    obtain ⟨p1, p2⟩ := HPE.out rfl
    have HIN2 : Hid _ := HIN.out.trans (if_neg (by simp))
    clear HIN HPE
    by_cases c2 : fe = 0
    · subst c2
      obtain ⟨p3, p4⟩ := HFE.out rfl
      have HIN3 : Hid _ := HIN2.out.trans (if_neg (by simp))
      clear HIN2 HFE
      by_cases c3 : t = 0
      · have q3 : (t == 0) = true := by simpa using c3
        by_cases c4 : 0 < a
        · have hv : v = (a, 0) := HIN3.out.trans (if_pos ⟨c3, c4⟩)
          have q4 : (a == 0) = false := by rw [beq_eq_false_iff_ne]; omega
          subst hv
          clear HIN3 c3
          go_enter Try.func51, Try.ntmps51
          go_wp2_with (first
            | (go_at_call 71; ((with_reducible refine (HP.out _ (by simp; omega) (HX.out _ (((Below.refl _ _).alloc hB _).alloc (by simp; omega) _))).mono ?_)); rintro e w1 ⟨rfl, hb1⟩; obtain ⟨hc1, hz1⟩ := bcell hb1; have s1 : w.heap.size + 1 < w1.heap.size := (by have z := hb1.size; simp only [World.size_alloc] at z; omega); have s2 : w.heap.size < w1.heap.size := (by omega); have HB1 := Lib.hid hb1; clear hb1)
            | (go_at_call 102; ((with_reducible refine (HF.out _).mono ?_)); rintro e w2 ⟨rfl, hb2⟩; obtain ⟨hc2, hz2⟩ := bcell hb2; have s3 : w.heap.size + 1 < w2.heap.size := (by have z := hb2.size; omega); have s4 : w.heap.size < w2.heap.size := (by omega); have HB2 := Lib.hid hb2; clear hb2)
            | (go_at_call 103; ((with_reducible refine (HC.out _ (HX.out _ (Below.trans (((Below.refl _ _).alloc hB _).alloc (by simp; omega) _) ((HB1.out.trans (HB2.out.mono HB1.out.size)).mono (by simp; omega))))).mono ?_)); rintro e w3 ⟨rfl, rfl⟩))
          go_ret2
          exact ⟨rfl, below_of_alloc' (below_of_alloc' (HB1.out.trans (HB2.out.mono HB1.out.size)))⟩
        · have hv : v = (0, 14) := (HIN3.out.trans (if_neg (fun h => c4 h.2))).trans (if_neg (by omega))
          have q4 : (a == 0) = true := by rw [beq_iff_eq]; omega
          have q5 : ¬ 0 < t := by omega
          subst hv
          clear HIN3 c3
          go_enter Try.func51, Try.ntmps51
          go_wp2_with (first
            | (go_at_call 71; ((with_reducible refine (HP.out _ (by simp; omega) (HX.out _ (((Below.refl _ _).alloc hB _).alloc (by simp; omega) _))).mono ?_)); rintro e w1 ⟨rfl, hb1⟩; obtain ⟨hc1, hz1⟩ := bcell hb1; have s1 : w.heap.size + 1 < w1.heap.size := (by have z := hb1.size; simp only [World.size_alloc] at z; omega); have s2 : w.heap.size < w1.heap.size := (by omega); have HB1 := Lib.hid hb1; clear hb1)
            | (go_at_call 102; ((with_reducible refine (HF.out _).mono ?_)); rintro e w2 ⟨rfl, hb2⟩; obtain ⟨hc2, hz2⟩ := bcell hb2; have s3 : w.heap.size + 1 < w2.heap.size := (by have z := hb2.size; omega); have s4 : w.heap.size < w2.heap.size := (by omega); have HB2 := Lib.hid hb2; clear hb2)
            | (go_at_call 103; ((with_reducible refine (HC.out _ (HX.out _ (Below.trans (((Below.refl _ _).alloc hB _).alloc (by simp; omega) _) ((HB1.out.trans (HB2.out.mono HB1.out.size)).mono (by simp; omega))))).mono ?_)); rintro e w3 ⟨rfl, rfl⟩))
          go_ret2
          exact ⟨rfl, below_of_alloc' (below_of_alloc' (HB1.out.trans (HB2.out.mono HB1.out.size)))⟩
      · have q3 : (t == 0) = false := by simpa using c3
        have q5 : 0 < t := by omega
        rcases Bool.eq_false_or_eq_true c with rfl | rfl
        · have hv : v = (t, 0) := (HIN3.out.trans (if_neg (fun h => c3 h.1))).trans (if_pos ⟨q5, rfl⟩)
          subst hv
          clear HIN3 c3
          go_enter Try.func51, Try.ntmps51
          go_wp2_with (first
            | (go_at_call 71; ((with_reducible refine (HP.out _ (by simp; omega) (HX.out _ (((Below.refl _ _).alloc hB _).alloc (by simp; omega) _))).mono ?_)); rintro e w1 ⟨rfl, hb1⟩; obtain ⟨hc1, hz1⟩ := bcell hb1; have s1 : w.heap.size + 1 < w1.heap.size := (by have z := hb1.size; simp only [World.size_alloc] at z; omega); have s2 : w.heap.size < w1.heap.size := (by omega); have HB1 := Lib.hid hb1; clear hb1)
            | (go_at_call 102; ((with_reducible refine (HF.out _).mono ?_)); rintro e w2 ⟨rfl, hb2⟩; obtain ⟨hc2, hz2⟩ := bcell hb2; have s3 : w.heap.size + 1 < w2.heap.size := (by have z := hb2.size; omega); have s4 : w.heap.size < w2.heap.size := (by omega); have HB2 := Lib.hid hb2; clear hb2)
            | (go_at_call 103; ((with_reducible refine (HC.out _ (HX.out _ (Below.trans (((Below.refl _ _).alloc hB _).alloc (by simp; omega) _) ((HB1.out.trans (HB2.out.mono HB1.out.size)).mono (by simp; omega))))).mono ?_)); rintro e w3 ⟨rfl, rfl⟩))
          go_ret2
          exact ⟨rfl, below_of_alloc' (below_of_alloc' (HB1.out.trans (HB2.out.mono HB1.out.size)))⟩
        · have hv : v = (0, 14) := (HIN3.out.trans (if_neg (fun h => c3 h.1))).trans (if_neg (by simp))
          subst hv
          clear HIN3 c3
          go_enter Try.func51, Try.ntmps51
          go_wp2_with (first
            | (go_at_call 71; ((with_reducible refine (HP.out _ (by simp; omega) (HX.out _ (((Below.refl _ _).alloc hB _).alloc (by simp; omega) _))).mono ?_)); rintro e w1 ⟨rfl, hb1⟩; obtain ⟨hc1, hz1⟩ := bcell hb1; have s1 : w.heap.size + 1 < w1.heap.size := (by have z := hb1.size; simp only [World.size_alloc] at z; omega); have s2 : w.heap.size < w1.heap.size := (by omega); have HB1 := Lib.hid hb1; clear hb1)
            | (go_at_call 102; ((with_reducible refine (HF.out _).mono ?_)); rintro e w2 ⟨rfl, hb2⟩; obtain ⟨hc2, hz2⟩ := bcell hb2; have s3 : w.heap.size + 1 < w2.heap.size := (by have z := hb2.size; omega); have s4 : w.heap.size < w2.heap.size := (by omega); have HB2 := Lib.hid hb2; clear hb2)
            | (go_at_call 103; ((with_reducible refine (HC.out _ (HX.out _ (Below.trans (((Below.refl _ _).alloc hB _).alloc (by simp; omega) _) ((HB1.out.trans (HB2.out.mono HB1.out.size)).mono (by simp; omega))))).mono ?_)); rintro e w3 ⟨rfl, rfl⟩))
          go_ret2
          exact ⟨rfl, below_of_alloc' (below_of_alloc' (HB1.out.trans (HB2.out.mono HB1.out.size)))⟩
    · have q2 : (fe != 0) = true := by simpa using c2
      have hv : v = (0, fe) := HIN2.out.trans (if_pos c2)
      subst hv
      clear HIN2 c2
      go_enter Try.func51, Try.ntmps51
      go_wp2_with (first
        | (go_at_call 71; ((with_reducible refine (HP.out _ (by simp; omega) (HX.out _ (((Below.refl _ _).alloc hB _).alloc (by simp; omega) _))).mono ?_)); rintro e w1 ⟨rfl, hb1⟩; obtain ⟨hc1, hz1⟩ := bcell hb1; have s1 : w.heap.size + 1 < w1.heap.size := (by have z := hb1.size; simp only [World.size_alloc] at z; omega); have s2 : w.heap.size < w1.heap.size := (by omega); have HB1 := Lib.hid hb1; clear hb1)
        | (go_at_call 102; ((with_reducible refine (HF.out _).mono ?_)); rintro e w2 ⟨rfl, hb2⟩; obtain ⟨hc2, hz2⟩ := bcell hb2; have s3 : w.heap.size + 1 < w2.heap.size := (by have z := hb2.size; omega); have s4 : w.heap.size < w2.heap.size := (by omega); have HB2 := Lib.hid hb2; clear hb2))
      go_ret2
      exact ⟨rfl, below_of_alloc' (below_of_alloc' (HB1.out.trans (HB2.out.mono HB1.out.size)))⟩
  · have q1 : (pe != 0) = true := by simpa using c1
    have hv : v = (0, pe) := HIN.out.trans (if_pos c1)
    subst hv
    clear HIN c1
    go_enter Try.func51, Try.ntmps51
    go_wp2_with (first
      | (go_at_call 71; ((with_reducible refine (HP.out _ (by simp; omega) (HX.out _ (((Below.refl _ _).alloc hB _).alloc (by simp; omega) _))).mono ?_)); rintro e w1 ⟨rfl, hb1⟩; obtain ⟨hc1, hz1⟩ := bcell hb1; have s1 : w.heap.size + 1 < w1.heap.size := (by have z := hb1.size; simp only [World.size_alloc] at z; omega); have s2 : w.heap.size < w1.heap.size := (by omega); have HB1 := Lib.hid hb1; clear hb1))
    go_ret2
    exact ⟨rfl, below_of_alloc' (below_of_alloc' HB1.out)⟩

set_option maxRecDepth 100000 in
set_option maxHeartbeats 1000000 in
theorem refNet_any (a : Int) (A : Option Addr) (xs : List Int) (cap : Nat) (d s t y : Int) (b : ByteArray) (hs : I64 s) (w : World) {B : Nat} (hB : B ≤ w.heap.size) (h : Ints B w A xs) :
    Calls Try.prog 69 #[.agg #[.int .i64 a, .slice A xs.length cap], .agg #[.int .i64 d, .int .i64 s, .int .i64 t, .int .i64 y, .string b]] w fun e w' =>
      e = .returned (.tuple #[.int .i64 (inTag a xs t (portE a xs) (frameE d s t y b.size)).1, .int .i64 (inTag a xs t (portE a xs) (frameE d s t y b.size)).2]) ∧ Below w.heap.size w w' := by
  have HX : Hid (∀ W : World, Below B w W → Ints B W A xs) := fun W hb => h.below hb
  have HP : Hid (∀ W : World, B ≤ W.heap.size → Ints B W A xs → Calls Try.prog 72 #[.agg #[.int .i64 a, .slice A xs.length cap]] W fun e w' => e = .returned (.int .i64 (portE a xs)) ∧ Below W.heap.size W w') := fun W hB h => portErr_any a A xs cap W hB h
  have HF : Hid (∀ W : World, Calls Try.prog 117 #[.agg #[.int .i64 d, .int .i64 s, .int .i64 t, .int .i64 y, .string b]] W fun e w' => e = .returned (.int .i64 (frameE d s t y b.size)) ∧ Below W.heap.size W w') := fun W => frameErr_any d s t y b hs W
  have HC : Hid (∀ W : World, B ≤ W.heap.size → Ints B W A xs → Calls Try.prog 118 #[.agg #[.int .i64 a, .slice A xs.length cap], .int .i64 t] W fun e w' => e = .returned (.bool (decide (t ∈ xs))) ∧ Below W.heap.size W w') := fun W hB h => allows_any a A xs cap t W hB h
  clear h
  have hpe := fun h => portE_zero (a := a) (xs := xs) h
  have hfe := fun h => frameE_zero (d := d) (s := s) (t := t) (y := y) (b := b.size) h
  have hin : inTag a xs t (portE a xs) (frameE d s t y b.size) = if portE a xs ≠ 0 then (0, portE a xs) else if frameE d s t y b.size ≠ 0 then (0, frameE d s t y b.size) else if t = 0 ∧ 0 < a then (a, 0) else if 0 < t ∧ decide (t ∈ xs) = true then (t, 0) else (0, 14) := by simp [inTag]
  generalize inTag a xs t (portE a xs) (frameE d s t y b.size) = v at hin ⊢
  generalize portE a xs = pe at HP hpe hin
  generalize frameE d s t y b.size = fe at HF hfe hin
  generalize decide (t ∈ xs) = c at HC hin
  generalize hL : xs.length = L at *
  have HPE := Lib.hid hpe
  have HFE := Lib.hid hfe
  have HIN := Lib.hid hin
  clear hpe hfe hin hL
  by_cases c1 : pe = 0
  · subst c1
    obtain ⟨p1, p2⟩ := HPE.out rfl
    have HIN2 : Hid _ := HIN.out.trans (if_neg (by simp))
    clear HIN HPE
    by_cases c2 : fe = 0
    · subst c2
      obtain ⟨p3, p4⟩ := HFE.out rfl
      have HIN3 : Hid _ := HIN2.out.trans (if_neg (by simp))
      clear HIN2 HFE
      by_cases c3 : t = 0
      · have q3 : (t == 0) = true := by simpa using c3
        by_cases c4 : 0 < a
        · have hv : v = (a, 0) := HIN3.out.trans (if_pos ⟨c3, c4⟩)
          have q4 : (a == 0) = false := by rw [beq_eq_false_iff_ne]; omega
          subst hv
          clear HIN3 c3
          go_enter Try.func69, Try.ntmps69
          go_wp2_with (first
            | (go_at_call 72; ((with_reducible refine (HP.out _ (by simp; omega) (HX.out _ (((Below.refl _ _).alloc hB _).alloc (by simp; omega) _))).mono ?_)); rintro e w1 ⟨rfl, hb1⟩; obtain ⟨hc1, hz1⟩ := bcell hb1; have s1 : w.heap.size + 1 < w1.heap.size := (by have z := hb1.size; simp only [World.size_alloc] at z; omega); have s2 : w.heap.size < w1.heap.size := (by omega); have HB1 := Lib.hid hb1; clear hb1)
            | (go_at_call 117; ((with_reducible refine (HF.out _).mono ?_)); rintro e w2 ⟨rfl, hb2⟩; obtain ⟨hc2, hz2⟩ := bcell hb2; have s3 : w.heap.size + 1 < w2.heap.size := (by have z := hb2.size; omega); have s4 : w.heap.size < w2.heap.size := (by omega); have HB2 := Lib.hid hb2; clear hb2)
            | (go_at_call 118; ((with_reducible refine (HC.out _ (by omega) (HX.out _ (Below.trans (((Below.refl _ _).alloc hB _).alloc (by simp; omega) _) ((HB1.out.trans (HB2.out.mono HB1.out.size)).mono (by simp; omega))))).mono ?_)); rintro e w3 ⟨rfl, hb3⟩; obtain ⟨hc3, hz3⟩ := bcell hb3; have s5 : w.heap.size + 1 < w3.heap.size := (by have z := hb3.size; omega); have s6 : w.heap.size < w3.heap.size := (by omega); have HB3 := Lib.hid hb3; clear hb3))
          go_ret2
          exact ⟨rfl, below_of_alloc' (below_of_alloc' (HB1.out.trans (HB2.out.mono HB1.out.size)))⟩
        · have hv : v = (0, 14) := (HIN3.out.trans (if_neg (fun h => c4 h.2))).trans (if_neg (by omega))
          have q4 : (a == 0) = true := by rw [beq_iff_eq]; omega
          have q5 : ¬ 0 < t := by omega
          subst hv
          clear HIN3 c3
          go_enter Try.func69, Try.ntmps69
          go_wp2_with (first
            | (go_at_call 72; ((with_reducible refine (HP.out _ (by simp; omega) (HX.out _ (((Below.refl _ _).alloc hB _).alloc (by simp; omega) _))).mono ?_)); rintro e w1 ⟨rfl, hb1⟩; obtain ⟨hc1, hz1⟩ := bcell hb1; have s1 : w.heap.size + 1 < w1.heap.size := (by have z := hb1.size; simp only [World.size_alloc] at z; omega); have s2 : w.heap.size < w1.heap.size := (by omega); have HB1 := Lib.hid hb1; clear hb1)
            | (go_at_call 117; ((with_reducible refine (HF.out _).mono ?_)); rintro e w2 ⟨rfl, hb2⟩; obtain ⟨hc2, hz2⟩ := bcell hb2; have s3 : w.heap.size + 1 < w2.heap.size := (by have z := hb2.size; omega); have s4 : w.heap.size < w2.heap.size := (by omega); have HB2 := Lib.hid hb2; clear hb2)
            | (go_at_call 118; ((with_reducible refine (HC.out _ (by omega) (HX.out _ (Below.trans (((Below.refl _ _).alloc hB _).alloc (by simp; omega) _) ((HB1.out.trans (HB2.out.mono HB1.out.size)).mono (by simp; omega))))).mono ?_)); rintro e w3 ⟨rfl, hb3⟩; obtain ⟨hc3, hz3⟩ := bcell hb3; have s5 : w.heap.size + 1 < w3.heap.size := (by have z := hb3.size; omega); have s6 : w.heap.size < w3.heap.size := (by omega); have HB3 := Lib.hid hb3; clear hb3))
          go_ret2
          exact ⟨rfl, below_of_alloc' (below_of_alloc' (HB1.out.trans (HB2.out.mono HB1.out.size)))⟩
      · have q3 : (t == 0) = false := by simpa using c3
        have q5 : 0 < t := by omega
        rcases Bool.eq_false_or_eq_true c with rfl | rfl
        · have hv : v = (t, 0) := (HIN3.out.trans (if_neg (fun h => c3 h.1))).trans (if_pos ⟨q5, rfl⟩)
          subst hv
          clear HIN3 c3
          go_enter Try.func69, Try.ntmps69
          go_wp2_with (first
            | (go_at_call 72; ((with_reducible refine (HP.out _ (by simp; omega) (HX.out _ (((Below.refl _ _).alloc hB _).alloc (by simp; omega) _))).mono ?_)); rintro e w1 ⟨rfl, hb1⟩; obtain ⟨hc1, hz1⟩ := bcell hb1; have s1 : w.heap.size + 1 < w1.heap.size := (by have z := hb1.size; simp only [World.size_alloc] at z; omega); have s2 : w.heap.size < w1.heap.size := (by omega); have HB1 := Lib.hid hb1; clear hb1)
            | (go_at_call 117; ((with_reducible refine (HF.out _).mono ?_)); rintro e w2 ⟨rfl, hb2⟩; obtain ⟨hc2, hz2⟩ := bcell hb2; have s3 : w.heap.size + 1 < w2.heap.size := (by have z := hb2.size; omega); have s4 : w.heap.size < w2.heap.size := (by omega); have HB2 := Lib.hid hb2; clear hb2)
            | (go_at_call 118; ((with_reducible refine (HC.out _ (by omega) (HX.out _ (Below.trans (((Below.refl _ _).alloc hB _).alloc (by simp; omega) _) ((HB1.out.trans (HB2.out.mono HB1.out.size)).mono (by simp; omega))))).mono ?_)); rintro e w3 ⟨rfl, hb3⟩; obtain ⟨hc3, hz3⟩ := bcell hb3; have s5 : w.heap.size + 1 < w3.heap.size := (by have z := hb3.size; omega); have s6 : w.heap.size < w3.heap.size := (by omega); have HB3 := Lib.hid hb3; clear hb3))
          go_ret2
          exact ⟨rfl, below_of_alloc' (below_of_alloc' ((HB1.out.trans (HB2.out.mono HB1.out.size)).trans (HB3.out.mono (Nat.le_trans HB1.out.size HB2.out.size))))⟩
        · have hv : v = (0, 14) := (HIN3.out.trans (if_neg (fun h => c3 h.1))).trans (if_neg (by simp))
          subst hv
          clear HIN3 c3
          go_enter Try.func69, Try.ntmps69
          go_wp2_with (first
            | (go_at_call 72; ((with_reducible refine (HP.out _ (by simp; omega) (HX.out _ (((Below.refl _ _).alloc hB _).alloc (by simp; omega) _))).mono ?_)); rintro e w1 ⟨rfl, hb1⟩; obtain ⟨hc1, hz1⟩ := bcell hb1; have s1 : w.heap.size + 1 < w1.heap.size := (by have z := hb1.size; simp only [World.size_alloc] at z; omega); have s2 : w.heap.size < w1.heap.size := (by omega); have HB1 := Lib.hid hb1; clear hb1)
            | (go_at_call 117; ((with_reducible refine (HF.out _).mono ?_)); rintro e w2 ⟨rfl, hb2⟩; obtain ⟨hc2, hz2⟩ := bcell hb2; have s3 : w.heap.size + 1 < w2.heap.size := (by have z := hb2.size; omega); have s4 : w.heap.size < w2.heap.size := (by omega); have HB2 := Lib.hid hb2; clear hb2)
            | (go_at_call 118; ((with_reducible refine (HC.out _ (by omega) (HX.out _ (Below.trans (((Below.refl _ _).alloc hB _).alloc (by simp; omega) _) ((HB1.out.trans (HB2.out.mono HB1.out.size)).mono (by simp; omega))))).mono ?_)); rintro e w3 ⟨rfl, hb3⟩; obtain ⟨hc3, hz3⟩ := bcell hb3; have s5 : w.heap.size + 1 < w3.heap.size := (by have z := hb3.size; omega); have s6 : w.heap.size < w3.heap.size := (by omega); have HB3 := Lib.hid hb3; clear hb3))
          go_ret2
          exact ⟨rfl, below_of_alloc' (below_of_alloc' ((HB1.out.trans (HB2.out.mono HB1.out.size)).trans (HB3.out.mono (Nat.le_trans HB1.out.size HB2.out.size))))⟩
    · have q2 : (fe != 0) = true := by simpa using c2
      have hv : v = (0, fe) := HIN2.out.trans (if_pos c2)
      subst hv
      clear HIN2 c2
      go_enter Try.func69, Try.ntmps69
      go_wp2_with (first
        | (go_at_call 72; ((with_reducible refine (HP.out _ (by simp; omega) (HX.out _ (((Below.refl _ _).alloc hB _).alloc (by simp; omega) _))).mono ?_)); rintro e w1 ⟨rfl, hb1⟩; obtain ⟨hc1, hz1⟩ := bcell hb1; have s1 : w.heap.size + 1 < w1.heap.size := (by have z := hb1.size; simp only [World.size_alloc] at z; omega); have s2 : w.heap.size < w1.heap.size := (by omega); have HB1 := Lib.hid hb1; clear hb1)
        | (go_at_call 117; ((with_reducible refine (HF.out _).mono ?_)); rintro e w2 ⟨rfl, hb2⟩; obtain ⟨hc2, hz2⟩ := bcell hb2; have s3 : w.heap.size + 1 < w2.heap.size := (by have z := hb2.size; omega); have s4 : w.heap.size < w2.heap.size := (by omega); have HB2 := Lib.hid hb2; clear hb2))
      go_ret2
      exact ⟨rfl, below_of_alloc' (below_of_alloc' (HB1.out.trans (HB2.out.mono HB1.out.size)))⟩
  · have q1 : (pe != 0) = true := by simpa using c1
    have hv : v = (0, pe) := HIN.out.trans (if_pos c1)
    subst hv
    clear HIN c1
    go_enter Try.func69, Try.ntmps69
    go_wp2_with (first
      | (go_at_call 72; ((with_reducible refine (HP.out _ (by simp; omega) (HX.out _ (((Below.refl _ _).alloc hB _).alloc (by simp; omega) _))).mono ?_)); rintro e w1 ⟨rfl, hb1⟩; obtain ⟨hc1, hz1⟩ := bcell hb1; have s1 : w.heap.size + 1 < w1.heap.size := (by have z := hb1.size; simp only [World.size_alloc] at z; omega); have s2 : w.heap.size < w1.heap.size := (by omega); have HB1 := Lib.hid hb1; clear hb1))
    go_ret2
    exact ⟨rfl, below_of_alloc' (below_of_alloc' HB1.out)⟩
end Go.Proofs.Ytfeddgeihpfjfaa
