/- How a frame leaves. -/
import Derived.Test.YtfeddgeihpfjfaaTag2
set_option linter.unusedSimpArgs false
set_option linter.unusedVariables false
namespace Go.Proofs.Ytfeddgeihpfjfaa
open Go.RowKit

/-- A frame as a value, and the frame of zeros. -/
abbrev frameV (d s t y : Int) (b : ByteArray) : Value := .agg #[.int .i64 d, .int .i64 s, .int .i64 t, .int .i64 y, .string b]
/-- With which tag a frame leaves (if it does), and the refusal. -/
def outTag (a n : Int) (xs : List Int) (pe fe : Int) : Option Int × Int :=
  if pe ≠ 0 then (none, pe) else if netB n = false then (none, 10) else if fe ≠ 0 then (none, fe) else if n = a then (some 0, 0) else if n ∈ xs then (some n, 0) else (none, 0)
def outV (o : Option Int × Int) (d s y : Int) (b : ByteArray) : Value :=
  .tuple #[match o.1 with | some t => frameV d s t y b | none => frameV 0 0 0 0 ⟨#[]⟩, .bool o.1.isSome, .int .i64 o.2]

set_option maxRecDepth 100000 in
set_option maxHeartbeats 2000000 in
theorem tagOut_any (a : Int) (A : Option Addr) (xs : List Int) (cap : Nat) (n : Int) (d s t y : Int) (b : ByteArray) (hs : I64 s) (w : World) {B : Nat} (hB : B ≤ w.heap.size) (h : Ints B w A xs) :
    Calls Try.prog 55 #[.agg #[.int .i64 a, .slice A xs.length cap], .int .i64 n, .agg #[.int .i64 d, .int .i64 s, .int .i64 t, .int .i64 y, .string b]] w fun e w' =>
      e = .returned (outV (outTag a n xs (portE a xs) (frameE d s t y b.size)) d s y b) ∧ Below w.heap.size w w' := by
  have HX : Hid (∀ W : World, Below B w W → Ints B W A xs) := fun W hb => h.below hb
  have HP : Hid (∀ W : World, B ≤ W.heap.size → Ints B W A xs → Calls Try.prog 71 #[.agg #[.int .i64 a, .slice A xs.length cap]] W fun e w' => e = .returned (.int .i64 (portE a xs)) ∧ Below W.heap.size W w') := fun W hB h => tagCheck_any a A xs cap W hB h
  have HF : Hid (∀ W : World, Calls Try.prog 102 #[.agg #[.int .i64 d, .int .i64 s, .int .i64 t, .int .i64 y, .string b]] W fun e w' => e = .returned (.int .i64 (frameE d s t y b.size)) ∧ Below W.heap.size W w') := fun W => frameCheck_any d s t y b hs W
  have HC : Hid (∀ W : World, Ints B W A xs → Calls Try.prog 103 #[.slice A xs.length cap, .int .i64 n] W fun e w' => e = .returned (.bool (decide (n ∈ xs))) ∧ W = w') := fun W h => contains_any A xs cap n W h
  have HN : Hid (∀ W : World, Calls Try.prog 105 #[.int .i64 n] W fun e w' => e = .returned (.bool (netB n)) ∧ W = w') := fun W => tagnet_any n W
  clear h
  have hin : outTag a n xs (portE a xs) (frameE d s t y b.size) = if portE a xs ≠ 0 then (none, portE a xs) else if netB n = false then (none, 10) else if frameE d s t y b.size ≠ 0 then (none, frameE d s t y b.size) else if n = a then (some 0, 0) else if decide (n ∈ xs) = true then (some n, 0) else (none, 0) := by simp [outTag]
  generalize outTag a n xs (portE a xs) (frameE d s t y b.size) = v at hin ⊢
  generalize portE a xs = pe at HP hin
  generalize frameE d s t y b.size = fe at HF hin
  generalize decide (n ∈ xs) = c at HC hin
  generalize hL : xs.length = L at *
  have HIN := Lib.hid hin
  clear hin hL
  by_cases c1 : pe = 0
  · subst c1
    have HIN2 : Hid _ := HIN.out.trans (if_neg (by simp))
    clear HIN
    by_cases cn : netB n = true
    · rw [cn] at HN HIN2
      have HIN3 : Hid _ := HIN2.out.trans (if_neg (by simp))
      clear HIN2
      have n1 : 1 ≤ n := by simp [netB] at cn; omega
      have n2 : n ≤ 4094 := by simp [netB] at cn; omega
      clear cn
      by_cases c2 : fe = 0
      · subst c2
        have HIN4 : Hid _ := HIN3.out.trans (if_neg (by simp))
        clear HIN3
        by_cases c3 : n = a
        · have hv : v = (some 0, 0) := HIN4.out.trans (if_pos c3)
          have q3 : (n == a) = true := by simpa using c3
          have q3' : (n != a) = false := by simpa using c3
          subst hv
          clear HIN4 c3
          simp only [outV, Option.isSome]
          go_enter Try.func55, Try.ntmps55
          go_wp2_with (first
            | (go_at_call 71; ((with_reducible refine (HP.out _ (by simp; omega) (HX.out _ ((((Below.refl _ _).alloc hB _).alloc (by simp; omega) _).alloc (by simp; omega) _))).mono ?_)); rintro e w1 ⟨rfl, hb1⟩; obtain ⟨hc1, hz1⟩ := bcell hb1; have s1 : w.heap.size + 2 < w1.heap.size := (by have z := hb1.size; simp only [World.size_alloc] at z; omega); have s2 : w.heap.size < w1.heap.size := (by omega); have x1 : w.heap.size + 1 < w1.heap.size := (by omega); have y1 : w.heap.size + 1 + 1 < w1.heap.size := (by omega); have HB1 := Lib.hid hb1; clear hb1)
            | (go_at_call 102; ((with_reducible refine (HF.out _).mono ?_)); rintro e w2 ⟨rfl, hb2⟩; obtain ⟨hc2, hz2⟩ := bcell hb2; have s3 : w.heap.size + 2 < w2.heap.size := (by have z := hb2.size; omega); have s4 : w.heap.size < w2.heap.size := (by omega); have x2 : w.heap.size + 1 < w2.heap.size := (by omega); have y2 : w.heap.size + 1 + 1 < w2.heap.size := (by omega); have HB2 := Lib.hid hb2; clear hb2)
            | (go_at_call 105; ((with_reducible refine (HN.out _).mono ?_)); rintro e w1' ⟨rfl, rfl⟩))
          refine bodyPost_ret (v := .tuple #[frameV d s 0 y b, .bool true, .int .i64 0]) (by simp [results, Try.results55, go_sem, hc1, hz1, hc2, hz2, s1, s2, s3, s4, x1, y1, x2, y2]) rfl ⟨rfl, ?_⟩
          repeat (refine Below.setCell ?_ (by first | (show w.heap.size ≤ w.heap.size + 1 + 1; omega) | (show w.heap.size ≤ w.heap.size + 1; omega)) _)
          exact below_of_alloc' (below_of_alloc' (below_of_alloc' (HB1.out.trans (HB2.out.mono HB1.out.size))))
        · have q3 : (n == a) = false := by simpa using c3
          have q3' : (n != a) = true := by simpa using c3
          rcases Bool.eq_false_or_eq_true c with rfl | rfl
          · have hv : v = (some n, 0) := (HIN4.out.trans (if_neg c3)).trans (if_pos rfl)
            subst hv
            clear HIN4 c3
            simp only [outV, Option.isSome]
            go_enter Try.func55, Try.ntmps55
            go_wp2_with (first
              | (go_at_call 71; ((with_reducible refine (HP.out _ (by simp; omega) (HX.out _ ((((Below.refl _ _).alloc hB _).alloc (by simp; omega) _).alloc (by simp; omega) _))).mono ?_)); rintro e w1 ⟨rfl, hb1⟩; obtain ⟨hc1, hz1⟩ := bcell hb1; have s1 : w.heap.size + 2 < w1.heap.size := (by have z := hb1.size; simp only [World.size_alloc] at z; omega); have s2 : w.heap.size < w1.heap.size := (by omega); have x1 : w.heap.size + 1 < w1.heap.size := (by omega); have y1 : w.heap.size + 1 + 1 < w1.heap.size := (by omega); have HB1 := Lib.hid hb1; clear hb1)
              | (go_at_call 102; ((with_reducible refine (HF.out _).mono ?_)); rintro e w2 ⟨rfl, hb2⟩; obtain ⟨hc2, hz2⟩ := bcell hb2; have s3 : w.heap.size + 2 < w2.heap.size := (by have z := hb2.size; omega); have s4 : w.heap.size < w2.heap.size := (by omega); have x2 : w.heap.size + 1 < w2.heap.size := (by omega); have y2 : w.heap.size + 1 + 1 < w2.heap.size := (by omega); have HB2 := Lib.hid hb2; clear hb2)
              | (go_at_call 103; ((with_reducible refine (HC.out _ (HX.out _ (Below.trans ((((Below.refl _ _).alloc hB _).alloc (by simp; omega) _).alloc (by simp; omega) _) ((HB1.out.trans (HB2.out.mono HB1.out.size)).mono (by simp; omega))))).mono ?_)); rintro e w3 ⟨rfl, rfl⟩)
              | (go_at_call 105; ((with_reducible refine (HN.out _).mono ?_)); rintro e w1' ⟨rfl, rfl⟩))
            refine bodyPost_ret (v := .tuple #[frameV d s n y b, .bool true, .int .i64 0]) (by simp [results, Try.results55, go_sem, hc1, hz1, hc2, hz2, s1, s2, s3, s4, x1, y1, x2, y2]) rfl ⟨rfl, ?_⟩
            repeat (refine Below.setCell ?_ (by first | (show w.heap.size ≤ w.heap.size + 1 + 1; omega) | (show w.heap.size ≤ w.heap.size + 1; omega)) _)
            exact below_of_alloc' (below_of_alloc' (below_of_alloc' (HB1.out.trans (HB2.out.mono HB1.out.size))))
          · have hv : v = (none, 0) := (HIN4.out.trans (if_neg c3)).trans (if_neg (by simp))
            subst hv
            clear HIN4 c3
            simp only [outV, Option.isSome]
            go_enter Try.func55, Try.ntmps55
            go_wp2_with (first
              | (go_at_call 71; ((with_reducible refine (HP.out _ (by simp; omega) (HX.out _ ((((Below.refl _ _).alloc hB _).alloc (by simp; omega) _).alloc (by simp; omega) _))).mono ?_)); rintro e w1 ⟨rfl, hb1⟩; obtain ⟨hc1, hz1⟩ := bcell hb1; have s1 : w.heap.size + 2 < w1.heap.size := (by have z := hb1.size; simp only [World.size_alloc] at z; omega); have s2 : w.heap.size < w1.heap.size := (by omega); have x1 : w.heap.size + 1 < w1.heap.size := (by omega); have y1 : w.heap.size + 1 + 1 < w1.heap.size := (by omega); have HB1 := Lib.hid hb1; clear hb1)
              | (go_at_call 102; ((with_reducible refine (HF.out _).mono ?_)); rintro e w2 ⟨rfl, hb2⟩; obtain ⟨hc2, hz2⟩ := bcell hb2; have s3 : w.heap.size + 2 < w2.heap.size := (by have z := hb2.size; omega); have s4 : w.heap.size < w2.heap.size := (by omega); have x2 : w.heap.size + 1 < w2.heap.size := (by omega); have y2 : w.heap.size + 1 + 1 < w2.heap.size := (by omega); have HB2 := Lib.hid hb2; clear hb2)
              | (go_at_call 103; ((with_reducible refine (HC.out _ (HX.out _ (Below.trans ((((Below.refl _ _).alloc hB _).alloc (by simp; omega) _).alloc (by simp; omega) _) ((HB1.out.trans (HB2.out.mono HB1.out.size)).mono (by simp; omega))))).mono ?_)); rintro e w3 ⟨rfl, rfl⟩)
              | (go_at_call 105; ((with_reducible refine (HN.out _).mono ?_)); rintro e w1' ⟨rfl, rfl⟩))
            refine bodyPost_ret (v := .tuple #[frameV 0 0 0 0 ⟨#[]⟩, .bool false, .int .i64 0]) (by simp [results, Try.results55, go_sem, hc1, hz1, hc2, hz2, s1, s2, s3, s4, x1, y1, x2, y2]) rfl ⟨rfl, ?_⟩
            repeat (refine Below.setCell ?_ (by first | (show w.heap.size ≤ w.heap.size + 1 + 1; omega) | (show w.heap.size ≤ w.heap.size + 1; omega)) _)
            exact below_of_alloc' (below_of_alloc' (below_of_alloc' (HB1.out.trans (HB2.out.mono HB1.out.size))))
      · have q2 : (fe != 0) = true := by simpa using c2
        have hv : v = (none, fe) := HIN3.out.trans (if_pos c2)
        subst hv
        clear HIN3 c2
        simp only [outV, Option.isSome]
        go_enter Try.func55, Try.ntmps55
        go_wp2_with (first
          | (go_at_call 71; ((with_reducible refine (HP.out _ (by simp; omega) (HX.out _ ((((Below.refl _ _).alloc hB _).alloc (by simp; omega) _).alloc (by simp; omega) _))).mono ?_)); rintro e w1 ⟨rfl, hb1⟩; obtain ⟨hc1, hz1⟩ := bcell hb1; have s1 : w.heap.size + 2 < w1.heap.size := (by have z := hb1.size; simp only [World.size_alloc] at z; omega); have s2 : w.heap.size < w1.heap.size := (by omega); have x1 : w.heap.size + 1 < w1.heap.size := (by omega); have y1 : w.heap.size + 1 + 1 < w1.heap.size := (by omega); have HB1 := Lib.hid hb1; clear hb1)
          | (go_at_call 102; ((with_reducible refine (HF.out _).mono ?_)); rintro e w2 ⟨rfl, hb2⟩; obtain ⟨hc2, hz2⟩ := bcell hb2; have s3 : w.heap.size + 2 < w2.heap.size := (by have z := hb2.size; omega); have s4 : w.heap.size < w2.heap.size := (by omega); have x2 : w.heap.size + 1 < w2.heap.size := (by omega); have y2 : w.heap.size + 1 + 1 < w2.heap.size := (by omega); have HB2 := Lib.hid hb2; clear hb2)
          | (go_at_call 105; ((with_reducible refine (HN.out _).mono ?_)); rintro e w1' ⟨rfl, rfl⟩))
        refine bodyPost_ret (v := .tuple #[frameV 0 0 0 0 ⟨#[]⟩, .bool false, .int .i64 fe]) (by simp [results, Try.results55, go_sem, hc1, hz1, hc2, hz2, s1, s2, s3, s4, x1, y1, x2, y2]) rfl ⟨rfl, ?_⟩
        repeat (refine Below.setCell ?_ (by first | (show w.heap.size ≤ w.heap.size + 1 + 1; omega) | (show w.heap.size ≤ w.heap.size + 1; omega)) _)
        exact below_of_alloc' (below_of_alloc' (below_of_alloc' (HB1.out.trans (HB2.out.mono HB1.out.size))))
    · have cn' : netB n = false := by simpa using cn
      rw [cn'] at HN HIN2
      have hv : v = (none, 10) := HIN2.out.trans (if_pos rfl)
      subst hv
      clear HIN2
      simp only [outV, Option.isSome]
      by_cases n1 : n < 1
      · clear cn cn'
        go_enter Try.func55, Try.ntmps55
        go_wp2_with (first
          | (go_at_call 71; ((with_reducible refine (HP.out _ (by simp; omega) (HX.out _ ((((Below.refl _ _).alloc hB _).alloc (by simp; omega) _).alloc (by simp; omega) _))).mono ?_)); rintro e w1 ⟨rfl, hb1⟩; obtain ⟨hc1, hz1⟩ := bcell hb1; have s1 : w.heap.size + 2 < w1.heap.size := (by have z := hb1.size; simp only [World.size_alloc] at z; omega); have s2 : w.heap.size < w1.heap.size := (by omega); have x1 : w.heap.size + 1 < w1.heap.size := (by omega); have y1 : w.heap.size + 1 + 1 < w1.heap.size := (by omega); have HB1 := Lib.hid hb1; clear hb1)
          | (go_at_call 105; ((with_reducible refine (HN.out _).mono ?_)); rintro e w1' ⟨rfl, rfl⟩))
        refine bodyPost_ret (v := .tuple #[frameV 0 0 0 0 ⟨#[]⟩, .bool false, .int .i64 10]) (by simp [results, Try.results55, go_sem, hc1, hz1, s1, s2, x1, y1]) rfl ⟨rfl, ?_⟩
        repeat (refine Below.setCell ?_ (by first | (show w.heap.size ≤ w.heap.size + 1 + 1; omega) | (show w.heap.size ≤ w.heap.size + 1; omega)) _)
        exact below_of_alloc' (below_of_alloc' (below_of_alloc' HB1.out))
      · have n2 : 4094 < n := by simp [netB] at cn'; omega
        have n1' : 1 ≤ n := by omega
        clear cn cn'
        go_enter Try.func55, Try.ntmps55
        go_wp2_with (first
          | (go_at_call 71; ((with_reducible refine (HP.out _ (by simp; omega) (HX.out _ ((((Below.refl _ _).alloc hB _).alloc (by simp; omega) _).alloc (by simp; omega) _))).mono ?_)); rintro e w1 ⟨rfl, hb1⟩; obtain ⟨hc1, hz1⟩ := bcell hb1; have s1 : w.heap.size + 2 < w1.heap.size := (by have z := hb1.size; simp only [World.size_alloc] at z; omega); have s2 : w.heap.size < w1.heap.size := (by omega); have x1 : w.heap.size + 1 < w1.heap.size := (by omega); have y1 : w.heap.size + 1 + 1 < w1.heap.size := (by omega); have HB1 := Lib.hid hb1; clear hb1)
          | (go_at_call 105; ((with_reducible refine (HN.out _).mono ?_)); rintro e w1' ⟨rfl, rfl⟩))
        refine bodyPost_ret (v := .tuple #[frameV 0 0 0 0 ⟨#[]⟩, .bool false, .int .i64 10]) (by simp [results, Try.results55, go_sem, hc1, hz1, s1, s2, x1, y1]) rfl ⟨rfl, ?_⟩
        repeat (refine Below.setCell ?_ (by first | (show w.heap.size ≤ w.heap.size + 1 + 1; omega) | (show w.heap.size ≤ w.heap.size + 1; omega)) _)
        exact below_of_alloc' (below_of_alloc' (below_of_alloc' HB1.out))
  · have q1 : (pe != 0) = true := by simpa using c1
    have hv : v = (none, pe) := HIN.out.trans (if_pos c1)
    subst hv
    clear HIN c1
    simp only [outV, Option.isSome]
    go_enter Try.func55, Try.ntmps55
    go_wp2_with (first
      | (go_at_call 71; ((with_reducible refine (HP.out _ (by simp; omega) (HX.out _ ((((Below.refl _ _).alloc hB _).alloc (by simp; omega) _).alloc (by simp; omega) _))).mono ?_)); rintro e w1 ⟨rfl, hb1⟩; obtain ⟨hc1, hz1⟩ := bcell hb1; have s1 : w.heap.size + 2 < w1.heap.size := (by have z := hb1.size; simp only [World.size_alloc] at z; omega); have s2 : w.heap.size < w1.heap.size := (by omega); have x1 : w.heap.size + 1 < w1.heap.size := (by omega); have y1 : w.heap.size + 1 + 1 < w1.heap.size := (by omega); have HB1 := Lib.hid hb1; clear hb1))
    refine bodyPost_ret (v := .tuple #[frameV 0 0 0 0 ⟨#[]⟩, .bool false, .int .i64 pe]) (by simp [results, Try.results55, go_sem, hc1, hz1, s1, s2, x1, y1]) rfl ⟨rfl, ?_⟩
    repeat (refine Below.setCell ?_ (by first | (show w.heap.size ≤ w.heap.size + 1 + 1; omega) | (show w.heap.size ≤ w.heap.size + 1; omega)) _)
    exact below_of_alloc' (below_of_alloc' (below_of_alloc' HB1.out))

set_option maxRecDepth 100000 in
set_option maxHeartbeats 2000000 in
theorem refLeaves_any (a : Int) (A : Option Addr) (xs : List Int) (cap : Nat) (n : Int) (d s t y : Int) (b : ByteArray) (hs : I64 s) (w : World) {B : Nat} (hB : B ≤ w.heap.size) (h : Ints B w A xs) :
    Calls Try.prog 70 #[.agg #[.int .i64 a, .slice A xs.length cap], .int .i64 n, .agg #[.int .i64 d, .int .i64 s, .int .i64 t, .int .i64 y, .string b]] w fun e w' =>
      e = .returned (outV (outTag a n xs (portE a xs) (frameE d s t y b.size)) d s y b) ∧ Below w.heap.size w w' := by
  have HX : Hid (∀ W : World, Below B w W → Ints B W A xs) := fun W hb => h.below hb
  have HP : Hid (∀ W : World, B ≤ W.heap.size → Ints B W A xs → Calls Try.prog 72 #[.agg #[.int .i64 a, .slice A xs.length cap]] W fun e w' => e = .returned (.int .i64 (portE a xs)) ∧ Below W.heap.size W w') := fun W hB h => portErr_any a A xs cap W hB h
  have HF : Hid (∀ W : World, Calls Try.prog 117 #[.agg #[.int .i64 d, .int .i64 s, .int .i64 t, .int .i64 y, .string b]] W fun e w' => e = .returned (.int .i64 (frameE d s t y b.size)) ∧ Below W.heap.size W w') := fun W => frameErr_any d s t y b hs W
  have HC : Hid (∀ W : World, B ≤ W.heap.size → Ints B W A xs → Calls Try.prog 118 #[.agg #[.int .i64 a, .slice A xs.length cap], .int .i64 n] W fun e w' => e = .returned (.bool (decide (n ∈ xs))) ∧ Below W.heap.size W w') := fun W hB h => allows_any a A xs cap n W hB h
  have HN : Hid (∀ W : World, Calls Try.prog 105 #[.int .i64 n] W fun e w' => e = .returned (.bool (netB n)) ∧ W = w') := fun W => tagnet_any n W
  clear h
  have hin : outTag a n xs (portE a xs) (frameE d s t y b.size) = if portE a xs ≠ 0 then (none, portE a xs) else if netB n = false then (none, 10) else if frameE d s t y b.size ≠ 0 then (none, frameE d s t y b.size) else if n = a then (some 0, 0) else if decide (n ∈ xs) = true then (some n, 0) else (none, 0) := by simp [outTag]
  generalize outTag a n xs (portE a xs) (frameE d s t y b.size) = v at hin ⊢
  generalize portE a xs = pe at HP hin
  generalize frameE d s t y b.size = fe at HF hin
  generalize decide (n ∈ xs) = c at HC hin
  generalize hL : xs.length = L at *
  have HIN := Lib.hid hin
  clear hin hL
  by_cases c1 : pe = 0
  · subst c1
    have HIN2 : Hid _ := HIN.out.trans (if_neg (by simp))
    clear HIN
    by_cases cn : netB n = true
    · rw [cn] at HN HIN2
      have HIN3 : Hid _ := HIN2.out.trans (if_neg (by simp))
      clear HIN2
      have n1 : 1 ≤ n := by simp [netB] at cn; omega
      have n2 : n ≤ 4094 := by simp [netB] at cn; omega
      clear cn
      by_cases c2 : fe = 0
      · subst c2
        have HIN4 : Hid _ := HIN3.out.trans (if_neg (by simp))
        clear HIN3
        by_cases c3 : n = a
        · have hv : v = (some 0, 0) := HIN4.out.trans (if_pos c3)
          have q3 : (n == a) = true := by simpa using c3
          have q3' : (n != a) = false := by simpa using c3
          subst hv
          clear HIN4 c3
          simp only [outV, Option.isSome]
          go_enter Try.func70, Try.ntmps70
          go_wp2_with (first
            | (go_at_call 72; ((with_reducible refine (HP.out _ (by simp; omega) (HX.out _ ((((Below.refl _ _).alloc hB _).alloc (by simp; omega) _).alloc (by simp; omega) _))).mono ?_)); rintro e w1 ⟨rfl, hb1⟩; obtain ⟨hc1, hz1⟩ := bcell hb1; have s1 : w.heap.size + 2 < w1.heap.size := (by have z := hb1.size; simp only [World.size_alloc] at z; omega); have s2 : w.heap.size < w1.heap.size := (by omega); have x1 : w.heap.size + 1 < w1.heap.size := (by omega); have y1 : w.heap.size + 1 + 1 < w1.heap.size := (by omega); have HB1 := Lib.hid hb1; clear hb1)
            | (go_at_call 117; ((with_reducible refine (HF.out _).mono ?_)); rintro e w2 ⟨rfl, hb2⟩; obtain ⟨hc2, hz2⟩ := bcell hb2; have s3 : w.heap.size + 2 < w2.heap.size := (by have z := hb2.size; omega); have s4 : w.heap.size < w2.heap.size := (by omega); have x2 : w.heap.size + 1 < w2.heap.size := (by omega); have y2 : w.heap.size + 1 + 1 < w2.heap.size := (by omega); have hcc : (w2.setCell ⟨w.heap.size + 1, 2, none⟩ (.int .i64 n)).cell? ⟨w.heap.size + 1, 2, none⟩ = some (.int .i64 n) := (by simp [go_sem, hc2, hc1, x1]); have HB2 := Lib.hid hb2; clear hb2))
          refine bodyPost_ret (v := .tuple #[frameV d s 0 y b, .bool true, .int .i64 0]) (by simp [results, Try.results70, go_sem, hc1, hcc, hz1, hc2, hz2, s1, s2, s3, s4, x1, y1, x2, y2]) rfl ⟨rfl, ?_⟩
          repeat (refine Below.setCell ?_ (by first | (show w.heap.size ≤ w.heap.size + 1 + 1; omega) | (show w.heap.size ≤ w.heap.size + 1; omega)) _)
          exact below_of_alloc' (below_of_alloc' (below_of_alloc' (HB1.out.trans (HB2.out.mono HB1.out.size))))
        · have q3 : (n == a) = false := by simpa using c3
          have q3' : (n != a) = true := by simpa using c3
          rcases Bool.eq_false_or_eq_true c with rfl | rfl
          · have hv : v = (some n, 0) := (HIN4.out.trans (if_neg c3)).trans (if_pos rfl)
            subst hv
            clear HIN4 c3
            simp only [outV, Option.isSome]
            go_enter Try.func70, Try.ntmps70
            go_wp2_with (first
              | (go_at_call 72; ((with_reducible refine (HP.out _ (by simp; omega) (HX.out _ ((((Below.refl _ _).alloc hB _).alloc (by simp; omega) _).alloc (by simp; omega) _))).mono ?_)); rintro e w1 ⟨rfl, hb1⟩; obtain ⟨hc1, hz1⟩ := bcell hb1; have s1 : w.heap.size + 2 < w1.heap.size := (by have z := hb1.size; simp only [World.size_alloc] at z; omega); have s2 : w.heap.size < w1.heap.size := (by omega); have x1 : w.heap.size + 1 < w1.heap.size := (by omega); have y1 : w.heap.size + 1 + 1 < w1.heap.size := (by omega); have HB1 := Lib.hid hb1; clear hb1)
              | (go_at_call 117; ((with_reducible refine (HF.out _).mono ?_)); rintro e w2 ⟨rfl, hb2⟩; obtain ⟨hc2, hz2⟩ := bcell hb2; have s3 : w.heap.size + 2 < w2.heap.size := (by have z := hb2.size; omega); have s4 : w.heap.size < w2.heap.size := (by omega); have x2 : w.heap.size + 1 < w2.heap.size := (by omega); have y2 : w.heap.size + 1 + 1 < w2.heap.size := (by omega); have HB2 := Lib.hid hb2; clear hb2)
              | (go_at_call 118; ((with_reducible refine (HC.out _ (by omega) (HX.out _ (Below.trans ((((Below.refl _ _).alloc hB _).alloc (by simp; omega) _).alloc (by simp; omega) _) ((HB1.out.trans (HB2.out.mono HB1.out.size)).mono (by simp; omega))))).mono ?_)); rintro e w3 ⟨rfl, hb3⟩; obtain ⟨hc3, hz3⟩ := bcell hb3; have s5 : w.heap.size + 2 < w3.heap.size := (by have z := hb3.size; omega); have s6 : w.heap.size < w3.heap.size := (by omega); have x3 : w.heap.size + 1 < w3.heap.size := (by omega); have y3 : w.heap.size + 1 + 1 < w3.heap.size := (by omega); have HB3 := Lib.hid hb3; clear hb3))
            refine bodyPost_ret (v := .tuple #[frameV d s n y b, .bool true, .int .i64 0]) (by simp [results, Try.results70, go_sem, hc1, hz1, hc2, hz2, hc3, hz3, s1, s2, s3, s4, s5, s6, x1, y1, x2, y2, x3, y3]) rfl ⟨rfl, ?_⟩
            repeat (refine Below.setCell ?_ (by first | (show w.heap.size ≤ w.heap.size + 1 + 1; omega) | (show w.heap.size ≤ w.heap.size + 1; omega)) _)
            exact below_of_alloc' (below_of_alloc' (below_of_alloc' ((HB1.out.trans (HB2.out.mono HB1.out.size)).trans (HB3.out.mono (Nat.le_trans HB1.out.size HB2.out.size)))))
          · have hv : v = (none, 0) := (HIN4.out.trans (if_neg c3)).trans (if_neg (by simp))
            subst hv
            clear HIN4 c3
            simp only [outV, Option.isSome]
            go_enter Try.func70, Try.ntmps70
            go_wp2_with (first
              | (go_at_call 72; ((with_reducible refine (HP.out _ (by simp; omega) (HX.out _ ((((Below.refl _ _).alloc hB _).alloc (by simp; omega) _).alloc (by simp; omega) _))).mono ?_)); rintro e w1 ⟨rfl, hb1⟩; obtain ⟨hc1, hz1⟩ := bcell hb1; have s1 : w.heap.size + 2 < w1.heap.size := (by have z := hb1.size; simp only [World.size_alloc] at z; omega); have s2 : w.heap.size < w1.heap.size := (by omega); have x1 : w.heap.size + 1 < w1.heap.size := (by omega); have y1 : w.heap.size + 1 + 1 < w1.heap.size := (by omega); have HB1 := Lib.hid hb1; clear hb1)
              | (go_at_call 117; ((with_reducible refine (HF.out _).mono ?_)); rintro e w2 ⟨rfl, hb2⟩; obtain ⟨hc2, hz2⟩ := bcell hb2; have s3 : w.heap.size + 2 < w2.heap.size := (by have z := hb2.size; omega); have s4 : w.heap.size < w2.heap.size := (by omega); have x2 : w.heap.size + 1 < w2.heap.size := (by omega); have y2 : w.heap.size + 1 + 1 < w2.heap.size := (by omega); have HB2 := Lib.hid hb2; clear hb2)
              | (go_at_call 118; ((with_reducible refine (HC.out _ (by omega) (HX.out _ (Below.trans ((((Below.refl _ _).alloc hB _).alloc (by simp; omega) _).alloc (by simp; omega) _) ((HB1.out.trans (HB2.out.mono HB1.out.size)).mono (by simp; omega))))).mono ?_)); rintro e w3 ⟨rfl, hb3⟩; obtain ⟨hc3, hz3⟩ := bcell hb3; have s5 : w.heap.size + 2 < w3.heap.size := (by have z := hb3.size; omega); have s6 : w.heap.size < w3.heap.size := (by omega); have x3 : w.heap.size + 1 < w3.heap.size := (by omega); have y3 : w.heap.size + 1 + 1 < w3.heap.size := (by omega); have HB3 := Lib.hid hb3; clear hb3))
            refine bodyPost_ret (v := .tuple #[frameV 0 0 0 0 ⟨#[]⟩, .bool false, .int .i64 0]) (by simp [results, Try.results70, go_sem, hc1, hz1, hc2, hz2, hc3, hz3, s1, s2, s3, s4, s5, s6, x1, y1, x2, y2, x3, y3]) rfl ⟨rfl, ?_⟩
            repeat (refine Below.setCell ?_ (by first | (show w.heap.size ≤ w.heap.size + 1 + 1; omega) | (show w.heap.size ≤ w.heap.size + 1; omega)) _)
            exact below_of_alloc' (below_of_alloc' (below_of_alloc' ((HB1.out.trans (HB2.out.mono HB1.out.size)).trans (HB3.out.mono (Nat.le_trans HB1.out.size HB2.out.size)))))
      · have q2 : (fe != 0) = true := by simpa using c2
        have hv : v = (none, fe) := HIN3.out.trans (if_pos c2)
        subst hv
        clear HIN3 c2
        simp only [outV, Option.isSome]
        go_enter Try.func70, Try.ntmps70
        go_wp2_with (first
          | (go_at_call 72; ((with_reducible refine (HP.out _ (by simp; omega) (HX.out _ ((((Below.refl _ _).alloc hB _).alloc (by simp; omega) _).alloc (by simp; omega) _))).mono ?_)); rintro e w1 ⟨rfl, hb1⟩; obtain ⟨hc1, hz1⟩ := bcell hb1; have s1 : w.heap.size + 2 < w1.heap.size := (by have z := hb1.size; simp only [World.size_alloc] at z; omega); have s2 : w.heap.size < w1.heap.size := (by omega); have x1 : w.heap.size + 1 < w1.heap.size := (by omega); have y1 : w.heap.size + 1 + 1 < w1.heap.size := (by omega); have HB1 := Lib.hid hb1; clear hb1)
          | (go_at_call 117; ((with_reducible refine (HF.out _).mono ?_)); rintro e w2 ⟨rfl, hb2⟩; obtain ⟨hc2, hz2⟩ := bcell hb2; have s3 : w.heap.size + 2 < w2.heap.size := (by have z := hb2.size; omega); have s4 : w.heap.size < w2.heap.size := (by omega); have x2 : w.heap.size + 1 < w2.heap.size := (by omega); have y2 : w.heap.size + 1 + 1 < w2.heap.size := (by omega); have HB2 := Lib.hid hb2; clear hb2))
        refine bodyPost_ret (v := .tuple #[frameV 0 0 0 0 ⟨#[]⟩, .bool false, .int .i64 fe]) (by simp [results, Try.results70, go_sem, hc1, hz1, hc2, hz2, s1, s2, s3, s4, x1, y1, x2, y2]) rfl ⟨rfl, ?_⟩
        repeat (refine Below.setCell ?_ (by first | (show w.heap.size ≤ w.heap.size + 1 + 1; omega) | (show w.heap.size ≤ w.heap.size + 1; omega)) _)
        exact below_of_alloc' (below_of_alloc' (below_of_alloc' (HB1.out.trans (HB2.out.mono HB1.out.size))))
    · have cn' : netB n = false := by simpa using cn
      rw [cn'] at HN HIN2
      have hv : v = (none, 10) := HIN2.out.trans (if_pos rfl)
      subst hv
      clear HIN2
      simp only [outV, Option.isSome]
      by_cases n1 : n < 1
      · clear cn cn'
        go_enter Try.func70, Try.ntmps70
        go_wp2_with (first
          | (go_at_call 72; ((with_reducible refine (HP.out _ (by simp; omega) (HX.out _ ((((Below.refl _ _).alloc hB _).alloc (by simp; omega) _).alloc (by simp; omega) _))).mono ?_)); rintro e w1 ⟨rfl, hb1⟩; obtain ⟨hc1, hz1⟩ := bcell hb1; have s1 : w.heap.size + 2 < w1.heap.size := (by have z := hb1.size; simp only [World.size_alloc] at z; omega); have s2 : w.heap.size < w1.heap.size := (by omega); have x1 : w.heap.size + 1 < w1.heap.size := (by omega); have y1 : w.heap.size + 1 + 1 < w1.heap.size := (by omega); have HB1 := Lib.hid hb1; clear hb1))
        refine bodyPost_ret (v := .tuple #[frameV 0 0 0 0 ⟨#[]⟩, .bool false, .int .i64 10]) (by simp [results, Try.results70, go_sem, hc1, hz1, s1, s2, x1, y1]) rfl ⟨rfl, ?_⟩
        repeat (refine Below.setCell ?_ (by first | (show w.heap.size ≤ w.heap.size + 1 + 1; omega) | (show w.heap.size ≤ w.heap.size + 1; omega)) _)
        exact below_of_alloc' (below_of_alloc' (below_of_alloc' HB1.out))
      · have n2 : 4094 < n := by simp [netB] at cn'; omega
        have n1' : 1 ≤ n := by omega
        clear cn cn'
        go_enter Try.func70, Try.ntmps70
        go_wp2_with (first
          | (go_at_call 72; ((with_reducible refine (HP.out _ (by simp; omega) (HX.out _ ((((Below.refl _ _).alloc hB _).alloc (by simp; omega) _).alloc (by simp; omega) _))).mono ?_)); rintro e w1 ⟨rfl, hb1⟩; obtain ⟨hc1, hz1⟩ := bcell hb1; have s1 : w.heap.size + 2 < w1.heap.size := (by have z := hb1.size; simp only [World.size_alloc] at z; omega); have s2 : w.heap.size < w1.heap.size := (by omega); have x1 : w.heap.size + 1 < w1.heap.size := (by omega); have y1 : w.heap.size + 1 + 1 < w1.heap.size := (by omega); have HB1 := Lib.hid hb1; clear hb1))
        refine bodyPost_ret (v := .tuple #[frameV 0 0 0 0 ⟨#[]⟩, .bool false, .int .i64 10]) (by simp [results, Try.results70, go_sem, hc1, hz1, s1, s2, x1, y1]) rfl ⟨rfl, ?_⟩
        repeat (refine Below.setCell ?_ (by first | (show w.heap.size ≤ w.heap.size + 1 + 1; omega) | (show w.heap.size ≤ w.heap.size + 1; omega)) _)
        exact below_of_alloc' (below_of_alloc' (below_of_alloc' HB1.out))
  · have q1 : (pe != 0) = true := by simpa using c1
    have hv : v = (none, pe) := HIN.out.trans (if_pos c1)
    subst hv
    clear HIN c1
    simp only [outV, Option.isSome]
    go_enter Try.func70, Try.ntmps70
    go_wp2_with (first
      | (go_at_call 72; ((with_reducible refine (HP.out _ (by simp; omega) (HX.out _ ((((Below.refl _ _).alloc hB _).alloc (by simp; omega) _).alloc (by simp; omega) _))).mono ?_)); rintro e w1 ⟨rfl, hb1⟩; obtain ⟨hc1, hz1⟩ := bcell hb1; have s1 : w.heap.size + 2 < w1.heap.size := (by have z := hb1.size; simp only [World.size_alloc] at z; omega); have s2 : w.heap.size < w1.heap.size := (by omega); have x1 : w.heap.size + 1 < w1.heap.size := (by omega); have y1 : w.heap.size + 1 + 1 < w1.heap.size := (by omega); have HB1 := Lib.hid hb1; clear hb1))
    refine bodyPost_ret (v := .tuple #[frameV 0 0 0 0 ⟨#[]⟩, .bool false, .int .i64 pe]) (by simp [results, Try.results70, go_sem, hc1, hz1, s1, s2, x1, y1]) rfl ⟨rfl, ?_⟩
    repeat (refine Below.setCell ?_ (by first | (show w.heap.size ≤ w.heap.size + 1 + 1; omega) | (show w.heap.size ≤ w.heap.size + 1; omega)) _)
    exact below_of_alloc' (below_of_alloc' (below_of_alloc' HB1.out))
end Go.Proofs.Ytfeddgeihpfjfaa
