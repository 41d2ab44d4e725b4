/- Which member a flow takes. -/
import Derived.Test.YtfeddgeihpfjfaaLag2
set_option linter.unusedSimpArgs false
set_option linter.unusedVariables false
namespace Go.Proofs.Ytfeddgeihpfjfaa
open Go.RowKit Crc

/-- m goes ahead of n. -/
def ahead (s : Int → Int) (m n : Int) : Prop := s n < s m ∨ (s n = s m ∧ m < n)
instance (s : Int → Int) (m n : Int) : Decidable (ahead s m n) := by unfold ahead; infer_instance
/-- The best of a list behind a first one. -/
def bestL (s : Int → Int) (b : Int) (l : List Int) : Int := l.foldl (fun b m => if ahead s m b then m else b) b
def chosen (s : Int → Int) (l : List Int) : Int := bestL s (l.getD 0 0) (l.drop 1)
theorem ahead_trans {s : Int → Int} {a b c : Int} (h : ¬ ahead s b a) (k : ¬ ahead s c b) : ¬ ahead s c a := by
  unfold ahead at *
  generalize s a = p at *
  generalize s b = q at *
  generalize s c = r at *
  omega
theorem ahead_asymm {s : Int → Int} {a b : Int} (h : ahead s a b) : ¬ ahead s b a := by
  unfold ahead at *
  generalize s a = p at *
  generalize s b = q at *
  omega
theorem ahead_irrefl (s : Int → Int) (a : Int) : ¬ ahead s a a := by
  unfold ahead
  generalize s a = p
  omega
theorem bestL_spec (s : Int → Int) : ∀ (l : List Int) (b : Int), (bestL s b l = b ∨ bestL s b l ∈ l) ∧ ¬ ahead s b (bestL s b l) ∧ ∀ x ∈ l, ¬ ahead s x (bestL s b l)
  | [], b => ⟨.inl rfl, ahead_irrefl s b, by simp⟩
  | m :: l, b => by
    have hb : bestL s b (m :: l) = bestL s (if ahead s m b then m else b) l := rfl
    rw [hb]
    by_cases h : ahead s m b
    · rw [if_pos h]
      obtain ⟨h1, h2, h3⟩ := bestL_spec s l m
      refine ⟨.inr ?_, ?_, ?_⟩
      · rcases h1 with h1 | h1
        · rw [h1]; exact List.mem_cons_self ..
        · exact List.mem_cons_of_mem _ h1
      · exact ahead_trans h2 (ahead_asymm h)
      · intro x hx
        rcases List.mem_cons.1 hx with rfl | hx
        · exact h2
        · exact h3 x hx
    · rw [if_neg h]
      obtain ⟨h1, h2, h3⟩ := bestL_spec s l b
      refine ⟨?_, h2, ?_⟩
      · rcases h1 with h1 | h1
        · exact .inl h1
        · exact .inr (List.mem_cons_of_mem _ h1)
      · intro x hx
        rcases List.mem_cons.1 hx with rfl | hx
        · exact ahead_trans h2 h
        · exact h3 x hx
theorem chosen_spec (s : Int → Int) (l : List Int) (h : 0 < l.length) : chosen s l ∈ l ∧ ∀ x ∈ l, ¬ ahead s x (chosen s l) := by
  cases l with
  | nil => simp at h
  | cons a l =>
    obtain ⟨h1, h2, h3⟩ := bestL_spec s l a
    have hc : chosen s (a :: l) = bestL s a l := rfl
    rw [hc]
    refine ⟨?_, ?_⟩
    · rcases h1 with h1 | h1
      · rw [h1]; exact List.mem_cons_self ..
      · exact List.mem_cons_of_mem _ h1
    · intro x hx
      rcases List.mem_cons.1 hx with rfl | hx
      · exact h2
      · exact h3 x hx
theorem chosen_unique (s : Int → Int) (l : List Int) (m : Int) (hm : m ∈ l) (hb : ∀ x ∈ l, ¬ ahead s x m) : m = chosen s l := by
  obtain ⟨h1, h2⟩ := chosen_spec s l (List.length_pos_of_mem hm)
  have a1 := hb _ h1
  have a2 := h2 _ hm
  unfold ahead at a1 a2
  generalize chosen s l = c at a1 a2 ⊢
  generalize s c = p at a1 a2
  generalize s m = q at a1 a2
  omega
theorem bestL_take (s : Int → Int) (b : Int) (l : List Int) (k : Nat) (h : k < l.length) : bestL s b (l.take (k + 1)) = if ahead s (l.getD k 0) (bestL s b (l.take k)) then l.getD k 0 else bestL s b (l.take k) := by
  rw [take_succ_getD l k h]; unfold bestL; rw [List.foldl_append, List.foldl_cons, List.foldl_nil]

set_option maxRecDepth 100000 in
set_option maxHeartbeats 1000000 in
theorem choose_any (s : Int → Int) {B : Nat} (A : Option Addr) (xs : List Int) (cap : Nat) (hcap : xs.length ≤ cap) (hmax : cap ≤ maxLen) (h0 : 0 < xs.length) (f : ByteArray) (HW : Hid (∀ (m : Int) (W : World), Calls Try.prog 87 #[.int .i64 m, .string f] W fun e w' => e = .returned (.int .u32 (s m)) ∧ Below W.heap.size W w')) (w : World) (hB : B ≤ w.heap.size) (h : Ints B w A xs) :
    Calls Try.prog 131 #[.slice A xs.length cap, .string f] w fun e w' => e = .returned (.int .i64 (chosen s xs)) ∧ Below w.heap.size w w' := by
  have hlen := h.1
  obtain ⟨ad, rfl, hadB, _⟩ := h.2.2 h0
  have HX : Hid (∀ W : World, Below B w W → ∀ j, j < xs.length → W.cell? (ad.add j) = some (.int .i64 (xs.getD j 0))) := fun W hb j hj => by
    obtain ⟨ad', e, _, hc⟩ := (h.below hb).2.2 h0
    cases e; exact hc j hj
  clear h
  have hc0 : w.cell? ad = some (.int .i64 (xs.getD 0 0)) := by have := HX.out w (Below.refl _ _) 0 h0; rwa [Addr.add_zero'] at this
  unfold maxLen at hmax
  have HE : Hid (chosen s xs = bestL s (xs.getD 0 0) (xs.drop 1)) := rfl
  generalize chosen s xs = v at HE ⊢
  generalize xs.getD 0 0 = x0 at hc0 HE
  by_cases hc1 : cap = 1
  · have hl1 : xs.length = 1 := by omega
    have hv : v = x0 := by rw [HE.out, List.drop_eq_nil_of_le (by omega)]; rfl
    subst hv
    clear HE
    go_enter Try.func131, Try.ntmps131
    go_wp2
    go_loop [5, 16] (fun b i => b = .int .i64 v ∧ i = .int .i64 0) (fun _ _ => 0)
    case atStart => exact ⟨rfl, rfl⟩
    case round =>
      obtain ⟨rfl, rfl⟩ := hrel
      have z1 : xs.length - 1 = 0 := by omega
      go_wp2
      go_ret
      exact ⟨rfl, Below.refl _ _⟩
  · have HC : Hid (∀ W : World, Below w.heap.size w W → ∀ k, k < xs.length - 1 → W.cell? ⟨ad.block, ad.off + 1 + k, none⟩ = some (.int .i64 ((xs.drop 1).getD k 0))) := fun W hb k hk => by
      have h := HX.out W (hb.mono hB) (1 + k) (by omega)
      rw [show ad.add (1 + k) = ⟨ad.block, ad.off + 1 + k, none⟩ by unfold Addr.add; rw [if_neg (by omega), ← Nat.add_assoc]] at h
      rw [show (xs.drop 1).getD k 0 = xs.getD (1 + k) 0 by simp [List.getD_eq_getElem?_getD, Nat.add_comm]]
      exact h
    have HL : Hid ((xs.drop 1).length = xs.length - 1) := by show _ = _; simp
    have hl1 : 1 ≤ xs.length := h0
    go_enter Try.func131, Try.ntmps131
    go_wp2
    generalize xs.drop 1 = ys at HC HE HL
    go_loopw [5, 16] (fun b i W => ∃ k : Nat, k ≤ xs.length - 1 ∧ b = .int .i64 (bestL s x0 (ys.take k)) ∧ i = .int .i64 k ∧ Hid (Below w.heap.size w W)) (fun _ i _ => xs.length - (intOf i).toNat)
    case atStart => exact ⟨0, by omega, rfl, rfl, Below.refl _ _⟩
    case round =>
      obtain ⟨k, hk, rfl, rfl, HB⟩ := hrel
      by_cases hlt : k < xs.length - 1
      · have hcell := HC.out _ HB.out k hlt
        have HN : Hid (bestL s x0 (ys.take (k + 1)) = _) := bestL_take s x0 ys k (by rw [HL.out]; exact hlt)
        generalize bestL s x0 (ys.take k) = b at HN ⊢
        generalize ys.getD k 0 = x at HN hcell
        have HWx : Hid (∀ W : World, Calls Try.prog 87 #[.int .i64 x, .string f] W fun e w' => e = .returned (.int .u32 (s x)) ∧ Below W.heap.size W w') := fun W => HW.out x W
        have HWb : Hid (∀ W : World, Calls Try.prog 87 #[.int .i64 b, .string f] W fun e w' => e = .returned (.int .u32 (s b)) ∧ Below W.heap.size W w') := fun W => HW.out b W
        have HAH : Hid (ahead s x b ↔ s b < s x ∨ (s b = s x ∧ x < b)) := Iff.rfl
        generalize s x = p at HWx HAH
        generalize s b = q at HWb HAH
        have hlt' : k < xs.length := by omega
        by_cases g1 : q < p
        · have hn : Hid (bestL s x0 (ys.take (k + 1)) = x) := HN.out.trans (if_pos (HAH.out.2 (.inl g1)))
          go_wp2_with (first
            | (go_at_call 87; ((with_reducible refine (HWx.out _).mono ?_)); rintro e w1 ⟨rfl, hb1⟩; have HB1 := Lib.hid hb1; clear hb1)
            | (go_at_call 87; ((with_reducible refine (HWb.out _).mono ?_)); rintro e w2 ⟨rfl, hb2⟩; have HB2 := Lib.hid hb2; clear hb2))
          go_roundw
          case rel => exact ⟨k + 1, by omega, by rw [hn.out], by go_num, HB.out.trans ((HB1.out.trans (HB2.out.mono HB1.out.size)).mono HB.out.size)⟩
          case measure => simp [intOf]; omega
        by_cases g2 : q = p
        · subst g2
          have e1 : (q == q) = true := by simp
          by_cases g3 : x < b
          · have hn : Hid (bestL s x0 (ys.take (k + 1)) = x) := HN.out.trans (if_pos (HAH.out.2 (.inr ⟨rfl, g3⟩)))
            go_wp2_with (first
              | (go_at_call 87; ((with_reducible refine (HWx.out _).mono ?_)); rintro e w1 ⟨rfl, hb1⟩; have HB1 := Lib.hid hb1; clear hb1)
              | (go_at_call 87; ((with_reducible refine (HWb.out _).mono ?_)); rintro e w2 ⟨rfl, hb2⟩; have HB2 := Lib.hid hb2; clear hb2))
            go_roundw
            case rel => exact ⟨k + 1, by omega, by rw [hn.out], by go_num, HB.out.trans ((HB1.out.trans (HB2.out.mono HB1.out.size)).mono HB.out.size)⟩
            case measure => simp [intOf]; omega
          · have hn : Hid (bestL s x0 (ys.take (k + 1)) = b) := HN.out.trans (if_neg fun h => by have := HAH.out.1 h; omega)
            go_wp2_with (first
              | (go_at_call 87; ((with_reducible refine (HWx.out _).mono ?_)); rintro e w1 ⟨rfl, hb1⟩; have HB1 := Lib.hid hb1; clear hb1)
              | (go_at_call 87; ((with_reducible refine (HWb.out _).mono ?_)); rintro e w2 ⟨rfl, hb2⟩; have HB2 := Lib.hid hb2; clear hb2))
            go_roundw
            case rel => exact ⟨k + 1, by omega, by rw [hn.out], by go_num, HB.out.trans ((HB1.out.trans (HB2.out.mono HB1.out.size)).mono HB.out.size)⟩
            case measure => simp [intOf]; omega
        · have hn : Hid (bestL s x0 (ys.take (k + 1)) = b) := HN.out.trans (if_neg fun h => by have := HAH.out.1 h; omega)
          have e1 : (p == q) = false := by rw [beq_eq_false_iff_ne]; omega
          go_wp2_with (first
            | (go_at_call 87; ((with_reducible refine (HWx.out _).mono ?_)); rintro e w1 ⟨rfl, hb1⟩; have HB1 := Lib.hid hb1; clear hb1)
            | (go_at_call 87; ((with_reducible refine (HWb.out _).mono ?_)); rintro e w2 ⟨rfl, hb2⟩; have HB2 := Lib.hid hb2; clear hb2))
          go_roundw
          case rel => exact ⟨k + 1, by omega, by rw [hn.out], by go_num, HB.out.trans ((HB1.out.trans (HB2.out.mono HB1.out.size)).mono HB.out.size)⟩
          case measure => simp [intOf]; omega
      · have hv : v = bestL s x0 (ys.take k) := by rw [HE.out, List.take_of_length_le (by rw [HL.out]; omega)]
        generalize bestL s x0 (ys.take k) = b at hv ⊢
        subst hv
        clear HE
        go_wp2
        go_ret
        exact ⟨rfl, HB.out⟩

set_option maxRecDepth 100000 in
set_option maxHeartbeats 1000000 in
theorem refChosen_any (s : Int → Int) {B : Nat} (A : Option Addr) (xs : List Int) (cap : Nat) (h0 : 0 < xs.length) (f : ByteArray) (HW : Hid (∀ (m : Int) (W : World), Calls Try.prog 88 #[.int .i64 m, .string f] W fun e w' => e = .returned (.int .u32 (s m)) ∧ Below W.heap.size W w')) (w : World) (hB : B ≤ w.heap.size) (h : Ints B w A xs) :
    Calls Try.prog 89 #[.slice A xs.length cap, .string f] w fun e w' => e = .returned (.int .i64 (chosen s xs)) ∧ Below w.heap.size w w' := by
  have hlen := h.1
  obtain ⟨ad, rfl, hadB, _⟩ := h.2.2 h0
  have HX : Hid (∀ W : World, Below w.heap.size w W → ∀ j, j < xs.length → W.cell? (ad.add j) = some (.int .i64 (xs.getD j 0))) := fun W hb j hj => by
    obtain ⟨ad', e, _, hc⟩ := (h.below (hb.mono hB)).2.2 h0
    cases e; exact hc j hj
  clear h
  have HS : Hid (chosen s xs ∈ xs ∧ ∀ x ∈ xs, ¬ ahead s x (chosen s xs)) := chosen_spec s xs h0
  have HU : Hid (∀ m ∈ xs, (∀ x ∈ xs, ¬ ahead s x m) → m = chosen s xs) := chosen_unique s xs
  generalize chosen s xs = v at HS HU ⊢
  have HM : Hid (∀ k, k < xs.length → xs.getD k 0 ∈ xs) := fun k hk => by
    rw [List.getD_eq_getElem?_getD, List.getElem?_eq_getElem hk]; exact List.getElem_mem hk
  go_enter Try.func89, Try.ntmps89
  go_wp2
  go_loopw [14] (fun i W => ∃ k : Nat, k ≤ xs.length ∧ i = .int .i64 k ∧ Hid (∀ j, j < k → ∃ x ∈ xs, ahead s x (xs.getD j 0)) ∧ Hid (Below w.heap.size w W)) (fun i _ => xs.length - (intOf i).toNat)
  case atStart => exact ⟨0, by omega, rfl, fun j hj => by omega, Below.refl _ _⟩
  case round =>
    obtain ⟨k, hk, rfl, HN, HB⟩ := hrel
    by_cases hlt : k < xs.length
    · have hcell := HX.out _ HB.out k hlt
      have HMk : Hid (xs.getD k 0 ∈ xs) := HM.out k hlt
      generalize hm : xs.getD k 0 = m at hcell HMk
      have HMM := Lib.hid hm
      clear hm
      go_wp2
      go_loopw [7, 20] (fun z i W => ∃ (b : Bool) (j : Nat), j ≤ xs.length ∧ z = .bool b ∧ i = .int .i64 j ∧ Hid (b = true ↔ ∀ x ∈ xs.take j, ¬ ahead s x m) ∧ Hid (Below w.heap.size w W)) (fun _ i _ => xs.length - (intOf i).toNat)
      case atStart => exact ⟨true, 0, by omega, rfl, rfl, by show (_ ↔ _); simp, HB.out⟩
      case round =>
        clear HB hcell
        obtain ⟨b, j, hj, rfl, rfl, HA, HB⟩ := hrel
        by_cases hjl : j < xs.length
        · have hcj := HX.out _ HB.out j hjl
          have HT : Hid (xs.take (j + 1) = xs.take j ++ [xs.getD j 0]) := take_succ_getD xs j hjl
          generalize xs.getD j 0 = x at hcj HT
          have HA2 : Hid ((∀ y ∈ xs.take (j + 1), ¬ ahead s y m) ↔ (b = true ∧ ¬ ahead s x m)) := by
            show _ ↔ _
            rw [HA.out, HT.out]
            simp only [List.mem_append, List.mem_singleton, or_imp, forall_and, forall_eq]
          have HWm : Hid (∀ W : World, Calls Try.prog 88 #[.int .i64 m, .string f] W fun e w' => e = .returned (.int .u32 (s m)) ∧ Below W.heap.size W w') := fun W => HW.out m W
          have HWx : Hid (∀ W : World, Calls Try.prog 88 #[.int .i64 x, .string f] W fun e w' => e = .returned (.int .u32 (s x)) ∧ Below W.heap.size W w') := fun W => HW.out x W
          have HAH : Hid (ahead s x m ↔ s m < s x ∨ (s m = s x ∧ x < m)) := Iff.rfl
          generalize s m = p at HWm HAH
          generalize s x = q at HWx HAH
          rcases Bool.eq_false_or_eq_true b with rfl | rfl
          · by_cases g1 : q < p
            · have HN2 : Hid ((true = true) ↔ ∀ y ∈ xs.take (j + 1), ¬ ahead s y m) := by refine Iff.trans ?_ HA2.out.symm; rw [HAH.out]; simp; omega
              go_wp2_with (first
                | (go_at_call 88; ((with_reducible refine (HWm.out _).mono ?_)); rintro e w1 ⟨rfl, hb1⟩; have HB1 := Lib.hid hb1; clear hb1)
                | (go_at_call 88; ((with_reducible refine (HWx.out _).mono ?_)); rintro e w2 ⟨rfl, hb2⟩; have HB2 := Lib.hid hb2; clear hb2))
              go_roundw
              case rel => exact ⟨true, j + 1, by omega, rfl, by go_num, ⟨fun _ => HN2.out.1 trivial, fun _ => rfl⟩, HB.out.trans ((HB1.out.trans (HB2.out.mono HB1.out.size)).mono HB.out.size)⟩
              case measure => simp [intOf]; omega
            by_cases g2 : p = q
            · subst g2
              have e1 : (p == p) = true := by simp
              by_cases g3 : m ≤ x
              · have HN2 : Hid ((true = true) ↔ ∀ y ∈ xs.take (j + 1), ¬ ahead s y m) := by refine Iff.trans ?_ HA2.out.symm; rw [HAH.out]; simp; omega
                go_wp2_with (first
                  | (go_at_call 88; ((with_reducible refine (HWm.out _).mono ?_)); rintro e w1 ⟨rfl, hb1⟩; have HB1 := Lib.hid hb1; clear hb1)
                  | (go_at_call 88; ((with_reducible refine (HWx.out _).mono ?_)); rintro e w2 ⟨rfl, hb2⟩; have HB2 := Lib.hid hb2; clear hb2))
                go_roundw
                case rel => exact ⟨true, j + 1, by omega, rfl, by go_num, ⟨fun _ => HN2.out.1 trivial, fun _ => rfl⟩, HB.out.trans ((HB1.out.trans (HB2.out.mono HB1.out.size)).mono HB.out.size)⟩
                case measure => simp [intOf]; omega
              · have HN2 : Hid (false = true ↔ ∀ y ∈ xs.take (j + 1), ¬ ahead s y m) := by refine Iff.trans ?_ HA2.out.symm; rw [HAH.out]; simp; omega
                go_wp2_with (first
                  | (go_at_call 88; ((with_reducible refine (HWm.out _).mono ?_)); rintro e w1 ⟨rfl, hb1⟩; have HB1 := Lib.hid hb1; clear hb1)
                  | (go_at_call 88; ((with_reducible refine (HWx.out _).mono ?_)); rintro e w2 ⟨rfl, hb2⟩; have HB2 := Lib.hid hb2; clear hb2))
                go_roundw
                case rel => exact ⟨false, j + 1, by omega, by first | rfl | (congr 1; simp; omega), by go_num, HN2.out, HB.out.trans ((HB1.out.trans (HB2.out.mono HB1.out.size)).mono HB.out.size)⟩
                case measure => simp [intOf]; omega
            · have HN2 : Hid (false = true ↔ ∀ y ∈ xs.take (j + 1), ¬ ahead s y m) := by refine Iff.trans ?_ HA2.out.symm; rw [HAH.out]; simp; omega
              have e1 : (p == q) = false := by rw [beq_eq_false_iff_ne]; omega
              go_wp2_with (first
                | (go_at_call 88; ((with_reducible refine (HWm.out _).mono ?_)); rintro e w1 ⟨rfl, hb1⟩; have HB1 := Lib.hid hb1; clear hb1)
                | (go_at_call 88; ((with_reducible refine (HWx.out _).mono ?_)); rintro e w2 ⟨rfl, hb2⟩; have HB2 := Lib.hid hb2; clear hb2))
              go_roundw
              case rel => exact ⟨false, j + 1, by omega, by first | rfl | (congr 1; simp; omega), by go_num, HN2.out, HB.out.trans ((HB1.out.trans (HB2.out.mono HB1.out.size)).mono HB.out.size)⟩
              case measure => simp [intOf]; omega
          · have HN2 : Hid (false = true ↔ ∀ y ∈ xs.take (j + 1), ¬ ahead s y m) := by refine Iff.trans ?_ HA2.out.symm; simp
            go_wp2_with (first
              | (go_at_call 88; ((with_reducible refine (HWm.out _).mono ?_)); rintro e w1 ⟨rfl, hb1⟩; have HB1 := Lib.hid hb1; clear hb1)
              | (go_at_call 88; ((with_reducible refine (HWx.out _).mono ?_)); rintro e w2 ⟨rfl, hb2⟩; have HB2 := Lib.hid hb2; clear hb2))
            go_roundw
            case rel => exact ⟨false, j + 1, by omega, by first | rfl | (congr 1; simp; omega), by go_num, HN2.out, HB.out.trans ((HB1.out.trans (HB2.out.mono HB1.out.size)).mono HB.out.size)⟩
            case measure => simp [intOf]; omega
        · have hjj : xs.take j = xs := List.take_of_length_le (by omega)
          have HA3 : Hid (b = true ↔ ∀ x ∈ xs, ¬ ahead s x m) := by have h := HA.out; rw [hjj] at h; exact h
          clear HA hjj
          rcases Bool.eq_false_or_eq_true b with rfl | rfl
          · have hv : m = v := HU.out m HMk.out (HA3.out.1 rfl)
            subst hv
            go_wp2
            go_ret
            exact ⟨rfl, HB.out⟩
          · go_wp2
            go_roundw
            case rel =>
              refine ⟨k + 1, by omega, by go_num, fun i hi => ?_, HB.out⟩
              by_cases h : i = k
              · subst h
                rw [HMM.out]
                exact Classical.byContradiction fun h4 => by
                  have h5 := HA3.out.2 (fun x hx ha => h4 ⟨x, hx, ha⟩)
                  cases h5
              · exact HN.out i (by omega)
            case measure => simp [intOf]; omega
    · exfalso
      obtain ⟨h1, h2⟩ := HS.out
      obtain ⟨j, hj, e⟩ := List.getElem_of_mem h1
      obtain ⟨x, hx, ha⟩ := HN.out j (by omega)
      rw [List.getD_eq_getElem?_getD, List.getElem?_eq_getElem hj] at ha
      exact h2 x hx (e ▸ ha)
end Go.Proofs.Ytfeddgeihpfjfaa
