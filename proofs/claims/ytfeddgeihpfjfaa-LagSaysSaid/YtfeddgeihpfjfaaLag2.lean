/- The members of an aggregate: what both sides refuse. -/
import Derived.Test.YtfeddgeihpfjfaaLag
set_option linter.unusedSimpArgs false
set_option linter.unusedVariables false
namespace Go.Proofs.Ytfeddgeihpfjfaa
open Go.RowKit Crc

theorem Ints.take {B : Nat} {w : World} {A : Option Addr} {xs : List Int} (h : Ints B w A xs) (k : Nat) : Ints B w A (xs.take k) := by
  obtain ⟨h1, h2, h3⟩ := h
  refine ⟨by simp; omega, fun x hx => h2 x (List.mem_of_mem_take hx), fun h0 => ?_⟩
  have hl : (xs.take k).length ≤ xs.length := by simp; omega
  obtain ⟨ad, e, hb, hc⟩ := h3 (by omega)
  refine ⟨ad, e, hb, fun j hj => ?_⟩
  rw [hc j (by omega)]
  have : j < k := by simp at hj; omega
  simp [List.getD_eq_getElem?_getD, this]

theorem between_any (n a b : Int) (w : World) :
    Calls Try.prog 99 #[.int .i64 n, .int .i64 a, .int .i64 b] w fun e w' => e = .returned (.bool (decide (a ≤ n) && decide (n ≤ b))) ∧ w = w' := by
  by_cases c : a ≤ n
  · go_enter Try.func99, Try.ntmps99
    go_wp2
    go_ret
    refine ⟨congrArg Ending.returned (congrArg Value.bool ?_), rfl⟩
    rw [decide_eq_true c]; rfl
  · have c' : n < a := by omega
    go_enter Try.func99, Try.ntmps99
    go_wp2
    go_ret
    refine ⟨congrArg Ending.returned (congrArg Value.bool ?_), rfl⟩
    rw [decide_eq_false (by omega : ¬ a ≤ n)]; rfl

/-- What members behind others are refused for. -/
def memS : List Int → List Int → Int
  | _, [] => 0
  | pre, m :: l => if m < 0 ∨ 65535 < m then 1 else if m ∈ pre then 6 else memS (pre ++ [m]) l
def memE (l : List Int) : Int := if 8 < l.length then 2 else if l.length = 0 then 4 else memS [] l
theorem take_succ_getD (l : List Int) (k : Nat) (h : k < l.length) : l.take (k + 1) = l.take k ++ [l.getD k 0] := by
  rw [List.take_add_one, List.getElem?_eq_getElem h, List.getD_eq_getElem?_getD, List.getElem?_eq_getElem h]; rfl
theorem mem_step (l : List Int) (k : Nat) (h : k < l.length) : memS (l.take k) (l.drop k) = if l.getD k 0 < 0 ∨ 65535 < l.getD k 0 then 1 else if l.getD k 0 ∈ l.take k then 6 else memS (l.take (k + 1)) (l.drop (k + 1)) := by
  rw [drop_getD l k h, take_succ_getD l k h]; rfl

set_option maxRecDepth 100000 in
theorem lagCheck_any {B : Nat} (A : Option Addr) (xs : List Int) (cap : Nat) (hcap : xs.length ≤ cap) (hmax : cap ≤ maxLen) (w : World) (h : Ints B w A xs) :
    Calls Try.prog 130 #[.slice A xs.length cap] w fun e w' => e = .returned (.int .i64 (memE xs)) ∧ w = w' := by
  have hlen := h.1
  have HX := Lib.hid h
  clear h
  by_cases c1 : 8 < xs.length
  · have hv : memE xs = 2 := if_pos c1
    rw [hv]
    go_enter Try.func130, Try.ntmps130
    go_wp2
    go_ret
    exact ⟨rfl, rfl⟩
  have hv : Hid (memE xs = if xs.length = 0 then 4 else memS [] xs) := if_neg c1
  generalize memE xs = v at hv ⊢
  have c1' : xs.length ≤ 8 := by omega
  clear c1
  unfold maxLen at hmax
  go_enter Try.func130, Try.ntmps130
  go_wp2
  go_loop [10] (fun i => ∃ k : Nat, k ≤ xs.length ∧ i = .int .i64 k ∧ Hid (xs.length ≠ 0 → v = memS (xs.take k) (xs.drop k))) (fun i => xs.length - (intOf i).toNat)
  case atStart => exact ⟨0, by omega, rfl, fun h => by rw [hv.out, if_neg h]; rfl⟩
  case round =>
    obtain ⟨k, hk, rfl, HV⟩ := hrel
    by_cases hlt : k < xs.length
    · obtain ⟨ad, rfl, _, hc⟩ := HX.out.2.2 (by omega)
      have hcell := hc k hlt
      clear hc
      have HV2 : Hid _ := (HV.out (by omega)).trans (mem_step xs k hlt)
      clear HV
      have HCT : Hid (∀ x : Int, Calls Try.prog 103 #[.slice (some ad) k cap, .int .i64 x] w fun e w' => e = .returned (.bool (decide (x ∈ xs.take k))) ∧ w = w') := fun x => by
        have := contains_any (some ad) (xs.take k) cap x w (HX.out.take k)
        rwa [show (xs.take k).length = k by simp; omega] at this
      generalize xs.getD k 0 = x at hcell HV2
      by_cases g1 : x < 0
      · have hv2 : v = 1 := HV2.out.trans (if_pos (.inl g1))
        clear HV2
        go_wp2
        go_ret
        exact ⟨by first | rfl | (rw [hv2]; rfl), rfl⟩
      by_cases g2 : 65535 < x
      · have hv2 : v = 1 := HV2.out.trans (if_pos (.inr g2))
        clear HV2
        go_wp2
        go_ret
        exact ⟨by first | rfl | (rw [hv2]; rfl), rfl⟩
      have g1' : 0 ≤ x := by omega
      have g2' : x ≤ 65535 := by omega
      have HV3 : Hid _ := HV2.out.trans (if_neg (by omega))
      clear HV2 g1 g2
      by_cases g3 : x ∈ xs.take k
      · have hv2 : v = 6 := HV3.out.trans (if_pos g3)
        have HC : Hid (Calls Try.prog 103 #[.slice (some ad) k cap, .int .i64 x] w fun e w' => e = .returned (.bool true) ∧ w = w') := by
          have := HCT.out x
          rwa [decide_eq_true g3] at this
        clear HV3 g3 HCT
        go_wp2_with (go_at_call 103; ((with_reducible refine HC.out.mono ?_)); rintro e w1 ⟨rfl, rfl⟩)
        go_ret
        exact ⟨by first | rfl | (rw [hv2]; rfl), rfl⟩
      · have HV4 : Hid _ := HV3.out.trans (if_neg g3)
        have HC : Hid (Calls Try.prog 103 #[.slice (some ad) k cap, .int .i64 x] w fun e w' => e = .returned (.bool false) ∧ w = w') := by
          have := HCT.out x
          rwa [decide_eq_false g3] at this
        clear HV3 g3 HCT
        go_wp2_with (go_at_call 103; ((with_reducible refine HC.out.mono ?_)); rintro e w1 ⟨rfl, rfl⟩)
        go_roundw
        case rel => exact ⟨k + 1, by omega, by go_num, fun _ => HV4.out⟩
        case measure => simp [intOf]; omega
    · by_cases h0 : xs.length = 0
      · have hv2 : v = 4 := by have := hv.out; rwa [if_pos h0] at this
        have q0 : ((xs.length : Int) == 0) = true := by simp [h0]
        clear hv HV
        go_wp2
        go_ret
        exact ⟨by first | rfl | (rw [hv2]; rfl), rfl⟩
      · have hv2 : v = 0 := by rw [HV.out h0, List.drop_eq_nil_of_le (by omega)]; simp [memS]
        have q0 : ((xs.length : Int) == 0) = false := by rw [beq_eq_false_iff_ne]; omega
        clear hv HV
        go_wp2
        go_ret
        exact ⟨by first | rfl | (rw [hv2]; rfl), rfl⟩

set_option maxRecDepth 100000 in
theorem membersErr_any {B : Nat} (A : Option Addr) (xs : List Int) (cap : Nat) (hcap : xs.length ≤ cap) (hmax : cap ≤ maxLen) (w : World) (h : Ints B w A xs) :
    Calls Try.prog 86 #[.slice A xs.length cap] w fun e w' => e = .returned (.int .i64 (memE xs)) ∧ w = w' := by
  have hlen := h.1
  have HX := Lib.hid h
  clear h
  by_cases c1 : 8 < xs.length
  · have hv : memE xs = 2 := if_pos c1
    rw [hv]
    go_enter Try.func86, Try.ntmps86
    go_wp2
    go_ret
    exact ⟨rfl, rfl⟩
  have hv : Hid (memE xs = if xs.length = 0 then 4 else memS [] xs) := if_neg c1
  generalize memE xs = v at hv ⊢
  have c1' : xs.length ≤ 8 := by omega
  clear c1
  unfold maxLen at hmax
  go_enter Try.func86, Try.ntmps86
  go_wp2
  go_loop [12] (fun i => ∃ k : Nat, k ≤ xs.length ∧ i = .int .i64 k ∧ Hid (xs.length ≠ 0 → v = memS (xs.take k) (xs.drop k))) (fun i => xs.length - (intOf i).toNat)
  case atStart => exact ⟨0, by omega, rfl, fun h => by rw [hv.out, if_neg h]; rfl⟩
  case round =>
    obtain ⟨k, hk, rfl, HV⟩ := hrel
    by_cases hlt : k < xs.length
    · obtain ⟨ad, rfl, _, hc⟩ := HX.out.2.2 (by omega)
      have hcell := hc k hlt
      have HCS := Lib.hid hc
      clear hc
      have HV2 : Hid _ := (HV.out (by omega)).trans (mem_step xs k hlt)
      clear HV
      generalize xs.getD k 0 = x at hcell HV2
      have HBT : Hid (Calls Try.prog 99 #[.int .i64 x, .int .i64 0, .int .i64 65535] w fun e w' => e = .returned (.bool (decide (0 ≤ x) && decide (x ≤ 65535))) ∧ w = w') := between_any x 0 65535 w
      by_cases g1 : x < 0 ∨ 65535 < x
      · have hv2 : v = 1 := HV2.out.trans (if_pos g1)
        rw [show (decide (0 ≤ x) && decide (x ≤ 65535)) = false by simp; omega] at HBT
        clear HV2
        go_wp2_with (go_at_call 99; ((with_reducible refine HBT.out.mono ?_)); rintro e w1 ⟨rfl, rfl⟩)
        go_ret
        exact ⟨by first | rfl | (rw [hv2]; rfl), rfl⟩
      have HV3 : Hid _ := HV2.out.trans (if_neg g1)
      rw [show (decide (0 ≤ x) && decide (x ≤ 65535)) = true by simp; omega] at HBT
      clear HV2 g1
      go_wp2_with (go_at_call 99; ((with_reducible refine HBT.out.mono ?_)); rintro e w1 ⟨rfl, rfl⟩)
      go_loop [24] (fun i => ∃ j : Nat, j ≤ k ∧ i = .int .i64 j ∧ Hid (∀ i, i < j → xs.getD i 0 ≠ x)) (fun i => k - (intOf i).toNat)
      case atStart => exact ⟨0, by omega, rfl, fun i h => by omega⟩
      case round =>
        obtain ⟨j, hj, rfl, HN⟩ := hrel
        by_cases hjl : j < k
        · have hcj := HCS.out j (by omega)
          have HM : Hid (xs.getD j 0 ∈ xs.take k) := by
            have hj2 : j < xs.length := by omega
            rw [List.getD_eq_getElem?_getD, List.getElem?_eq_getElem hj2]
            exact List.mem_take_iff_getElem.2 ⟨j, by omega, rfl⟩
          generalize hy : xs.getD j 0 = y at hcj HM
          have HY := Lib.hid hy
          clear hy
          by_cases hxy : y = x
          · have hv2 : v = 6 := HV3.out.trans (if_pos (hxy ▸ HM.out))
            have q : (y == x) = true := by simp [hxy]
            clear HV3 hxy
            go_wp2
            go_ret
            exact ⟨by first | rfl | (rw [hv2]; rfl), rfl⟩
          · have q : (y == x) = false := by simp [hxy]
            have HXY := Lib.hid hxy
            clear hxy
            go_wp2
            go_roundw
            case rel =>
              refine ⟨j + 1, by omega, by go_num, fun i hi => ?_⟩
              by_cases h : i = j
              · subst h; rw [HY.out]; exact HXY.out
              · exact HN.out i (by omega)
            case measure => simp [intOf]; omega
        · go_wp2
          go_roundw
          case rel =>
            refine ⟨k + 1, by omega, by go_num, fun _ => HV3.out.trans (if_neg fun hm => ?_)⟩
            obtain ⟨i, hi, e⟩ := List.mem_take_iff_getElem.1 hm
            have := HN.out i (by omega)
            rw [List.getD_eq_getElem?_getD, List.getElem?_eq_getElem (by omega)] at this
            exact this e
          case measure => simp [intOf]; omega
    · by_cases h0 : xs.length = 0
      · have hv2 : v = 4 := by have := hv.out; rwa [if_pos h0] at this
        have q0 : ((xs.length : Int) == 0) = true := by simp [h0]
        clear hv HV
        go_wp2
        go_ret
        exact ⟨by first | rfl | (rw [hv2]; rfl), rfl⟩
      · have hv2 : v = 0 := by rw [HV.out h0, List.drop_eq_nil_of_le (by omega)]; simp [memS]
        have q0 : ((xs.length : Int) == 0) = false := by rw [beq_eq_false_iff_ne]; omega
        clear hv HV
        go_wp2
        go_ret
        exact ⟨by first | rfl | (rw [hv2]; rfl), rfl⟩
end Go.Proofs.Ytfeddgeihpfjfaa
