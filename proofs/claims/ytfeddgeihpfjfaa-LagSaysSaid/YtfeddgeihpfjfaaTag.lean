/- The ports of a switch. -/
import Derived.Test.YtfeddgeihpfjfaaFrameCk
set_option linter.unusedSimpArgs false
set_option linter.unusedVariables false
namespace Go.Proofs.Ytfeddgeihpfjfaa
open Go.RowKit

theorem index_any {B : Nat} (A : Option Addr) (xs : List Int) (cap : Nat) (n : Int) (w : World) (h : Ints B w A xs) :
    Calls Try.prog 134 #[.slice A xs.length cap, .int .i64 n] w fun e w' => (∃ i : Int, e = .returned (.int .i64 i) ∧ (n ∈ xs ↔ 0 ≤ i)) ∧ w = w' := by
  have hlen := h.1
  have HX := Lib.hid h
  clear h
  go_enter Try.func134, Try.ntmps134
  go_wp2
  go_loop [8] (fun i => ∃ k : Nat, k ≤ xs.length ∧ i = .int .i64 k ∧ Hid (∀ j, j < k → xs.getD j 0 ≠ n)) (fun i => xs.length - (intOf i).toNat)
  case atStart => exact ⟨0, by omega, rfl, fun j hj => by omega⟩
  case round =>
    obtain ⟨k, hk, rfl, HN⟩ := hrel
    by_cases hlt : k < xs.length
    · obtain ⟨ad, rfl, _, hc⟩ := HX.out.2.2 (by omega)
      have hcell := hc k hlt
      clear hc
      generalize hx : xs.getD k 0 = x at hcell
      have HXE := Lib.hid hx
      clear hx
      by_cases c : n = x
      · have q : (n == x) = true := by simp [c]
        have HC := Lib.hid c
        clear c
        go_wp2
        go_ret
        refine ⟨⟨k, rfl, ⟨fun _ => by omega, fun _ => ?_⟩⟩, rfl⟩
        rw [HC.out, ← HXE.out, List.getD_eq_getElem?_getD, List.getElem?_eq_getElem hlt]
        exact List.getElem_mem hlt
      · have q : (n == x) = false := by simp [c]
        have HC := Lib.hid c
        clear c
        go_wp2
        go_roundw
        case rel =>
          refine ⟨k + 1, by omega, by go_num, fun j hj => ?_⟩
          by_cases h : j = k
          · subst h; rw [HXE.out]; exact fun e => HC.out e.symm
          · exact HN.out j (by omega)
        case measure => simp [intOf]; omega
    · go_wp2
      go_ret
      refine ⟨⟨-1, rfl, ⟨fun h => ?_, fun h => by omega⟩⟩, rfl⟩
      obtain ⟨j, hj, e⟩ := List.getElem_of_mem h
      have := HN.out j (by omega)
      rw [List.getD_eq_getElem?_getD, List.getElem?_eq_getElem hj] at this
      exact absurd e this

theorem contains_any {B : Nat} (A : Option Addr) (xs : List Int) (cap : Nat) (n : Int) (w : World) (h : Ints B w A xs) :
    Calls Try.prog 103 #[.slice A xs.length cap, .int .i64 n] w fun e w' => e = .returned (.bool (decide (n ∈ xs))) ∧ w = w' := by
  have HI : Hid (∀ W : World, W = w → Calls Try.prog 134 #[.slice A xs.length cap, .int .i64 n] W fun e w' => (∃ i : Int, e = .returned (.int .i64 i) ∧ (n ∈ xs ↔ 0 ≤ i)) ∧ W = w') := fun W hW => index_any (B := B) A xs cap n W (hW ▸ h)
  clear h
  generalize hL : xs.length = L at *
  clear hL
  go_enter Try.func103, Try.ntmps103
  go_wp2_with (go_at_call 134; ((with_reducible refine (HI.out _ rfl).mono ?_)); rintro e w1 ⟨⟨i, rfl, hi⟩, rfl⟩; have HI1 := Lib.hid hi; clear hi)
  go_ret
  refine ⟨congrArg Ending.returned (congrArg Value.bool ?_), rfl⟩
  exact decide_eq_decide.2 HI1.out.symm

/-- The number of a network. -/
def netB (n : Int) : Bool := decide (1 ≤ n) && decide (n ≤ 4094)
theorem tagnet_any (n : Int) (w : World) :
    Calls Try.prog 105 #[.int .i64 n] w fun e w' => e = .returned (.bool (netB n)) ∧ w = w' := by
  unfold netB
  by_cases c : 1 ≤ n
  · go_enter Try.func105, Try.ntmps105
    go_wp2
    go_ret
    refine ⟨congrArg Ending.returned (congrArg Value.bool ?_), rfl⟩
    rw [decide_eq_true c]; rfl
  · go_enter Try.func105, Try.ntmps105
    go_wp2
    go_ret
    refine ⟨congrArg Ending.returned (congrArg Value.bool ?_), rfl⟩
    rw [decide_eq_false (by omega : ¬ 1 ≤ n)]; rfl

/-- What the numbers behind 'last' are refused for (with the first one nothing comes before). -/
def allowE : Bool → Int → List Int → Int
  | _, _, [] => 0
  | first, last, n :: l => if netB n = false then 10 else if first = false ∧ n ≤ last then 3 else allowE false n l
/-- What a port is refused for. -/
def portE (a : Int) (l : List Int) : Int := if a < 0 ∨ 4094 < a then 10 else if 256 < l.length then 2 else allowE true 0 l

theorem drop_getD (l : List Int) (k : Nat) (h : k < l.length) : l.drop k = l.getD k 0 :: l.drop (k + 1) := by
  rw [List.drop_eq_getElem_cons h, List.getD_eq_getElem?_getD, List.getElem?_eq_getElem h]; rfl
theorem allow_step (l : List Int) (k : Nat) (h : k < l.length) (last : Int) : allowE (k == 0) last (l.drop k) = if netB (l.getD k 0) = false then 10 else if (k == 0) = false ∧ l.getD k 0 ≤ last then 3 else allowE (k + 1 == 0) (l.getD k 0) (l.drop (k + 1)) := by
  rw [drop_getD l k h]; rfl

set_option maxRecDepth 100000 in
theorem tagCheck_any (a : Int) (A : Option Addr) (xs : List Int) (cap : Nat) (w : World) {B : Nat} (hB : B ≤ w.heap.size) (h : Ints B w A xs) :
    Calls Try.prog 71 #[.agg #[.int .i64 a, .slice A xs.length cap]] w fun e w' => e = .returned (.int .i64 (portE a xs)) ∧ Below w.heap.size w w' := by
  have hlen := h.1
  have HX : Hid (Ints w.heap.size (w.alloc (.cells #[.int .i64 a, .slice A xs.length cap] 81)) A xs) := by
    refine Ints.below (w := w) ⟨h.1, h.2.1, fun h0 => ?_⟩ ((Below.refl _ _).alloc (Nat.le_refl _) _)
    obtain ⟨ad, e, hb, hc⟩ := h.2.2 h0
    exact ⟨ad, e, by omega, hc⟩
  clear h
  have HE : Hid (portE a xs = if a < 0 ∨ 4094 < a then 10 else if 256 < xs.length then 2 else allowE true 0 xs) := rfl
  generalize portE a xs = v at HE ⊢
  have HB : Hid (Below w.heap.size w (w.alloc (.cells #[.int .i64 a, .slice A xs.length cap] 81))) := (Below.refl _ _).alloc (Nat.le_refl _) _
  by_cases c1 : a < 0
  · go_enter Try.func71, Try.ntmps71
    go_wp2
    go_ret
    exact ⟨by rw [HE.out, if_pos (.inl c1)]; rfl, HB.out⟩
  by_cases c2 : 4094 < a
  · have c1' : 0 ≤ a := by omega
    go_enter Try.func71, Try.ntmps71
    go_wp2
    go_ret
    exact ⟨by rw [HE.out, if_pos (.inr c2)]; rfl, HB.out⟩
  have c1' : 0 ≤ a := by omega
  have c2' : a ≤ 4094 := by omega
  have HE2 : Hid (v = if 256 < xs.length then 2 else allowE true 0 xs) := by have h := HE.out; rw [if_neg (by omega)] at h; exact h
  clear HE c1 c2
  by_cases c3 : 256 < xs.length
  · go_enter Try.func71, Try.ntmps71
    go_wp2
    go_ret
    exact ⟨by rw [HE2.out, if_pos c3]; rfl, HB.out⟩
  have HE3 : Hid (v = allowE true 0 xs) := by have h := HE2.out; rw [if_neg c3] at h; exact h
  clear HE2
  have c3' : xs.length ≤ 256 := by omega
  clear c3
  go_enter Try.func71, Try.ntmps71
  go_wp2
  go_loop [20] (fun i => ∃ k : Nat, k ≤ xs.length ∧ i = .int .i64 k ∧ Hid (v = allowE (k == 0) (xs.getD (k - 1) 0) (xs.drop k))) (fun i => xs.length - (intOf i).toNat)
  case atStart => exact ⟨0, by omega, rfl, by
    have h := HE3.out
    show v = allowE true (xs.getD 0 0) xs
    rw [h]; cases xs <;> simp [allowE]⟩
  case round =>
    obtain ⟨k, hk, rfl, HV⟩ := hrel
    by_cases hlt : k < xs.length
    · obtain ⟨ad, rfl, _, hc⟩ := HX.out.2.2 (by omega)
      have HV2 : Hid _ := HV.out.trans (allow_step xs k hlt _)
      have hcell := hc k hlt
      have hcell1 : 0 < k → _ := fun h => hc (k - 1) (by omega)
      clear hc
      have HX1 : Hid (xs.getD (k + 1 - 1) 0 = xs.getD k 0) := rfl
      generalize xs.getD k 0 = x at hcell HV2 HX1
      generalize xs.getD (k - 1) 0 = y at hcell1 HV2
      have HT : Hid (∀ W : World, Calls Try.prog 105 #[.int .i64 x] W fun e w' => e = .returned (.bool (netB x)) ∧ W = w') := fun W => tagnet_any x W
      by_cases h0 : netB x = false
      · rw [h0] at HT
        go_wp2_with (go_at_call 105; ((with_reducible refine (HT.out _).mono ?_)); rintro e w1 ⟨rfl, rfl⟩)
        go_ret
        exact ⟨by rw [HV2.out, if_pos h0]; rfl, HB.out⟩
      · have h0' : netB x = true := by simpa using h0
        rw [h0'] at HT
        have HV3 : Hid _ := HV2.out.trans (if_neg h0)
        clear HV2
        have HXY : Hid ((0 < k → ¬ x ≤ y) → v = allowE (k + 1 == 0) (xs.getD (k + 1 - 1) 0) (xs.drop (k + 1))) := fun h => by rw [HX1.out, HV3.out, if_neg]; rintro ⟨h1, h2⟩; exact h (by simp at h1; omega) h2
        clear HX1
        by_cases hk0 : 0 < k
        · have hcell2 := hcell1 hk0
          clear hcell1
          have e1 : ((k : Int) - 1) = ((k - 1 : Nat) : Int) := by omega
          by_cases hxy : x ≤ y
          · go_wp2_with (go_at_call 105; ((with_reducible refine (HT.out _).mono ?_)); rintro e w1 ⟨rfl, rfl⟩)
            go_ret
            exact ⟨by rw [HV3.out, if_pos ⟨by simp; omega, hxy⟩]; rfl, HB.out⟩
          · have hxy' := hxy
            go_wp2_with (go_at_call 105; ((with_reducible refine (HT.out _).mono ?_)); rintro e w1 ⟨rfl, rfl⟩)
            go_roundw
            case rel => exact ⟨k + 1, by omega, by go_num, HXY.out fun _ => hxy'⟩
            case measure => simp [intOf]; omega
        · clear hcell1
          have hk0' := hk0
          go_wp2_with (go_at_call 105; ((with_reducible refine (HT.out _).mono ?_)); rintro e w1 ⟨rfl, rfl⟩)
          go_roundw
          case rel => exact ⟨k + 1, by omega, by go_num, HXY.out fun h => absurd h hk0'⟩
          case measure => simp [intOf]; omega
    · go_wp2
      go_ret
      exact ⟨by rw [HV.out, List.drop_eq_nil_of_le (by omega)]; simp [allowE], HB.out⟩
set_option maxRecDepth 100000 in
theorem portErr_any (a : Int) (A : Option Addr) (xs : List Int) (cap : Nat) (w : World) {B : Nat} (hB : B ≤ w.heap.size) (h : Ints B w A xs) :
    Calls Try.prog 72 #[.agg #[.int .i64 a, .slice A xs.length cap]] w fun e w' => e = .returned (.int .i64 (portE a xs)) ∧ Below w.heap.size w w' := by
  have hlen := h.1
  have HX : Hid (Ints w.heap.size (w.alloc (.cells #[.int .i64 a, .slice A xs.length cap] 81)) A xs) := by
    refine Ints.below (w := w) ⟨h.1, h.2.1, fun h0 => ?_⟩ ((Below.refl _ _).alloc (Nat.le_refl _) _)
    obtain ⟨ad, e, hb, hc⟩ := h.2.2 h0
    exact ⟨ad, e, by omega, hc⟩
  clear h
  have HE : Hid (portE a xs = if a < 0 ∨ 4094 < a then 10 else if 256 < xs.length then 2 else allowE true 0 xs) := rfl
  generalize portE a xs = v at HE ⊢
  have HB : Hid (Below w.heap.size w (w.alloc (.cells #[.int .i64 a, .slice A xs.length cap] 81))) := (Below.refl _ _).alloc (Nat.le_refl _) _
  by_cases c1 : a < 0
  · go_enter Try.func72, Try.ntmps72
    go_wp2
    go_ret
    exact ⟨by rw [HE.out, if_pos (.inl c1)]; rfl, HB.out⟩
  by_cases c2 : 4094 < a
  · have c1' : 0 ≤ a := by omega
    go_enter Try.func72, Try.ntmps72
    go_wp2
    go_ret
    exact ⟨by rw [HE.out, if_pos (.inr c2)]; rfl, HB.out⟩
  have c1' : 0 ≤ a := by omega
  have c2' : a ≤ 4094 := by omega
  have HE2 : Hid (v = if 256 < xs.length then 2 else allowE true 0 xs) := by have h := HE.out; rw [if_neg (by omega)] at h; exact h
  clear HE c1 c2
  by_cases c3 : 256 < xs.length
  · go_enter Try.func72, Try.ntmps72
    go_wp2
    go_ret
    exact ⟨by rw [HE2.out, if_pos c3]; rfl, HB.out⟩
  have HE3 : Hid (v = allowE true 0 xs) := by have h := HE2.out; rw [if_neg c3] at h; exact h
  clear HE2
  have c3' : xs.length ≤ 256 := by omega
  clear c3
  go_enter Try.func72, Try.ntmps72
  go_wp2
  go_loop [3, 21] (fun z i => ∃ k : Nat, k ≤ xs.length ∧ z = .int .i64 (if k = 0 then 0 else xs.getD (k - 1) 0) ∧ i = .int .i64 k ∧ Hid (v = allowE (k == 0) (if k = 0 then 0 else xs.getD (k - 1) 0) (xs.drop k))) (fun z i => xs.length - (intOf i).toNat)
  case atStart => exact ⟨0, by omega, rfl, rfl, HE3.out⟩
  case round =>
    obtain ⟨k, hk, rfl, rfl, HV⟩ := hrel
    by_cases hlt : k < xs.length
    · obtain ⟨ad, rfl, _, hc⟩ := HX.out.2.2 (by omega)
      have HV2 : Hid _ := HV.out.trans (allow_step xs k hlt _)
      have hcell := hc k hlt
      clear hc
      have HX1 : Hid ((if k + 1 = 0 then 0 else xs.getD (k + 1 - 1) 0) = xs.getD k 0) := if_neg (by omega)
      generalize xs.getD k 0 = x at hcell HV2 HX1
      generalize (if k = 0 then 0 else xs.getD (k - 1) 0) = y at HV2 ⊢
      by_cases h0 : netB x = false
      · have HV3 : v = 10 := HV2.out.trans (if_pos h0)
        clear HX1
        by_cases g1 : x < 1
        · go_wp2
          go_ret
          exact ⟨rfl, HB.out⟩
        · have g2 : 4094 < x := by simp [netB] at h0; omega
          go_wp2
          go_ret
          exact ⟨rfl, HB.out⟩
      · have g1 : 1 ≤ x := by simp [netB] at h0; omega
        have g2 : x ≤ 4094 := by simp [netB] at h0; omega
        have HV3 : Hid _ := HV2.out.trans (if_neg h0)
        clear HV2
        have HXY : Hid ((0 < k → ¬ x ≤ y) → v = allowE (k + 1 == 0) (if k + 1 = 0 then 0 else xs.getD (k + 1 - 1) 0) (xs.drop (k + 1))) := fun h => by rw [HX1.out, HV3.out, if_neg]; rintro ⟨h1, h2⟩; exact h (by simp at h1; omega) h2
        by_cases hk0 : 0 < k
        · by_cases hxy : x ≤ y
          · go_wp2
            go_ret
            exact ⟨by rw [HV3.out, if_pos ⟨by simp; omega, hxy⟩]; rfl, HB.out⟩
          · have hxy' := hxy
            go_wp2
            go_roundw
            case rel => exact ⟨k + 1, by omega, by rw [HX1.out], by go_num, HXY.out fun _ => hxy'⟩
            case measure => simp [intOf]; omega
        · have hk0' := hk0
          go_wp2
          go_roundw
          case rel => exact ⟨k + 1, by omega, by rw [HX1.out], by go_num, HXY.out fun h => absurd h hk0'⟩
          case measure => simp [intOf]; omega
    · have hv : v = 0 := by rw [HV.out, List.drop_eq_nil_of_le (by omega)]; simp [allowE]
      clear HV
      generalize (if k = 0 then 0 else xs.getD (k - 1) 0) = y
      go_wp2
      go_ret
      exact ⟨rfl, HB.out⟩
theorem allows_any (a : Int) (A : Option Addr) (xs : List Int) (cap : Nat) (n : Int) (w : World) {B : Nat} (hB : B ≤ w.heap.size) (h : Ints B w A xs) :
    Calls Try.prog 118 #[.agg #[.int .i64 a, .slice A xs.length cap], .int .i64 n] w fun e w' => e = .returned (.bool (decide (n ∈ xs))) ∧ Below w.heap.size w w' := by
  have hlen := h.1
  have HX : Hid (Ints w.heap.size (w.alloc (.cells #[.int .i64 a, .slice A xs.length cap] 81)) A xs) := by
    refine Ints.below (w := w) ⟨h.1, h.2.1, fun h0 => ?_⟩ ((Below.refl _ _).alloc (Nat.le_refl _) _)
    obtain ⟨ad, e, hb, hc⟩ := h.2.2 h0
    exact ⟨ad, e, by omega, hc⟩
  clear h
  have HB : Hid (Below w.heap.size w (w.alloc (.cells #[.int .i64 a, .slice A xs.length cap] 81))) := (Below.refl _ _).alloc (Nat.le_refl _) _
  generalize hv : decide (n ∈ xs) = v
  have HV := Lib.hid hv
  clear hv
  go_enter Try.func118, Try.ntmps118
  go_wp2
  go_loop [5, 11] (fun z i => ∃ (k : Nat) (b : Bool), k ≤ xs.length ∧ z = .bool b ∧ i = .int .i64 k ∧ Hid (b = decide (n ∈ xs.take k))) (fun z i => xs.length - (intOf i).toNat)
  case atStart => exact ⟨0, false, by omega, rfl, rfl, by show false = _; simp⟩
  case round =>
    obtain ⟨k, b, hk, rfl, rfl, HN⟩ := hrel
    by_cases hlt : k < xs.length
    · obtain ⟨ad, rfl, _, hc⟩ := HX.out.2.2 (by omega)
      have hcell := hc k hlt
      clear hc
      have HT : Hid (xs.take (k + 1) = xs.take k ++ [xs.getD k 0]) := by
        rw [List.take_add_one, List.getElem?_eq_getElem hlt, List.getD_eq_getElem?_getD, List.getElem?_eq_getElem hlt]; rfl
      generalize xs.getD k 0 = x at hcell HT
      have HX1 : Hid ((b || x == n) = decide (n ∈ xs.take (k + 1))) := by
        show _ = _
        rw [HT.out, HN.out, Bool.eq_iff_iff, Bool.or_eq_true, decide_eq_true_iff, decide_eq_true_iff, List.mem_append, List.mem_singleton, beq_iff_eq]; exact ⟨fun h => h.imp id Eq.symm, fun h => h.imp id Eq.symm⟩
      rcases Bool.eq_false_or_eq_true b with rfl | rfl
      · go_wp2
        go_roundw
        case rel => exact ⟨k + 1, _, by omega, rfl, by go_num, HX1.out⟩
        case measure => simp [intOf]; omega
      · go_wp2
        go_roundw
        case rel => exact ⟨k + 1, _, by omega, rfl, by go_num, HX1.out⟩
        case measure => simp [intOf]; omega
    · go_wp2
      go_ret
      refine ⟨?_, HB.out⟩
      have e1 : xs.take k = xs := List.take_of_length_le (by omega)
      have h := HN.out
      rw [e1, HV.out] at h
      rw [← h]; rfl
end Go.Proofs.Ytfeddgeihpfjfaa
