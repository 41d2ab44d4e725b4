/- The contention, in plain words: who is first, who collides, what is left. -/
import Derived.Test.YtfeddgeihpfjfaaMem
import Derived.Lib.Hide
set_option linter.unusedVariables false
set_option linter.unusedSimpArgs false
namespace Go.Proofs.Ytfeddgeihpfjfaa
open Go.RowKit

/-- The stations: next slot, tries, slot of sending; how many are left; draws that are used. -/
structure Cst where
  nx : List Int
  tr : List Int
  sn : List Int
  lf : Int
  us : Int

/-- The lowest next slot ahead of i, and the stations that have it. -/
def scan (nx : List Int) : Nat → Int × List Int
  | 0 => (-1, [])
  | i + 1 => if nx.getD i 0 < 0 then scan nx i else if (scan nx i).2 = [] ∨ nx.getD i 0 < (scan nx i).1 then (nx.getD i 0, [(i : Int)]) else if nx.getD i 0 = (scan nx i).1 then ((scan nx i).1, (scan nx i).2 ++ [(i : Int)]) else scan nx i
def pick (nx : List Int) (v : Int) : Nat → List Int
  | 0 => []
  | i + 1 => if nx.getD i 0 = v then pick nx v i ++ [(i : Int)] else pick nx v i

theorem scan_ok (nx : List Int) : ∀ i, (∀ y ∈ (scan nx i).2, ∃ j : Nat, y = j ∧ j < i ∧ nx.getD j 0 = (scan nx i).1) ∧ ((scan nx i).2 = [] → ∀ j, j < i → nx.getD j 0 < 0) ∧ ((scan nx i).2 ≠ [] → 0 ≤ (scan nx i).1 ∧ ∀ j, j < i → 0 ≤ nx.getD j 0 → (scan nx i).1 ≤ nx.getD j 0) ∧ (scan nx i).2.Nodup
  | 0 => ⟨by simp [scan], fun _ j hj => absurd hj (by omega), fun h => absurd rfl h, by simp [scan]⟩
  | i + 1 => by
    obtain ⟨h1, h2, h3, h4⟩ := scan_ok nx i
    unfold scan
    by_cases c1 : nx.getD i 0 < 0
    · rw [if_pos c1]
      refine ⟨fun y hy => ?_, fun h j hj => ?_, fun h => ⟨(h3 h).1, fun j hj hp => ?_⟩, h4⟩
      · obtain ⟨j, e, hj, hv⟩ := h1 y hy
        exact ⟨j, e, by omega, hv⟩
      · by_cases e : j = i
        · subst e; exact c1
        · exact h2 h j (by omega)
      · by_cases e : j = i
        · subst e; omega
        · exact (h3 h).2 j (by omega) hp
    · rw [if_neg c1]
      by_cases c2 : (scan nx i).2 = [] ∨ nx.getD i 0 < (scan nx i).1
      · rw [if_pos c2]
        refine ⟨fun y hy => ⟨i, by simpa using hy, by omega, rfl⟩, fun h => absurd h (by simp), fun _ => ⟨by show 0 ≤ nx.getD i 0; omega, fun j hj hp => ?_⟩, by simp⟩
        show nx.getD i 0 ≤ nx.getD j 0
        by_cases e : j = i
        · subst e; omega
        · rcases c2 with c2 | c2
          · have := h2 c2 j (by omega); omega
          · by_cases e2 : (scan nx i).2 = []
            · have := h2 e2 j (by omega); omega
            · have := (h3 e2).2 j (by omega) hp; omega
      · rw [if_neg c2]
        have hne : (scan nx i).2 ≠ [] := fun h => c2 (.inl h)
        have hge : ¬ nx.getD i 0 < (scan nx i).1 := fun h => c2 (.inr h)
        by_cases c3 : nx.getD i 0 = (scan nx i).1
        · rw [if_pos c3]
          refine ⟨fun y hy => ?_, fun h => absurd h (by simp), fun _ => ⟨(h3 hne).1, fun j hj hp => ?_⟩, ?_⟩
          · rcases List.mem_append.1 hy with hy | hy
            · obtain ⟨j, e, hj, hv⟩ := h1 y hy
              exact ⟨j, e, by omega, hv⟩
            · exact ⟨i, by simpa using hy, by omega, c3⟩
          · show (scan nx i).1 ≤ _
            by_cases e : j = i
            · subst e; omega
            · exact (h3 hne).2 j (by omega) hp
          · refine List.nodup_append.2 ⟨h4, by simp, fun a ha b hb => ?_⟩
            obtain ⟨j, e, hj, _⟩ := h1 a ha
            have : b = (i : Int) := by simpa using hb
            omega
        · rw [if_neg c3]
          refine ⟨fun y hy => ?_, fun h => absurd h hne, fun h => ⟨(h3 h).1, fun j hj hp => ?_⟩, h4⟩
          · obtain ⟨j, e, hj, hv⟩ := h1 y hy
            exact ⟨j, e, by omega, hv⟩
          · by_cases e : j = i
            · subst e; omega
            · exact (h3 h).2 j (by omega) hp
theorem scan_len (nx : List Int) : ∀ i, (scan nx i).2.length ≤ i
  | 0 => by simp [scan]
  | i + 1 => by
    have := scan_len nx i
    unfold scan
    split
    · omega
    · split
      · simp
      · split
        · simp; omega
        · omega
theorem pick_none (nx : List Int) (v : Int) : ∀ i, (∀ j, j < i → nx.getD j 0 ≠ v) → pick nx v i = []
  | 0, _ => rfl
  | i + 1, h => by
    unfold pick
    rw [if_neg (h i (by omega)), pick_none nx v i fun j hj => h j (by omega)]
theorem scan_pick (nx : List Int) : ∀ i, (scan nx i).2 ≠ [] → (scan nx i).2 = pick nx (scan nx i).1 i
  | 0, h => absurd rfl h
  | i + 1, h => by
    obtain ⟨h1, h2, h3, h4⟩ := scan_ok nx i
    unfold scan at h ⊢
    unfold pick
    by_cases c1 : nx.getD i 0 < 0
    · rw [if_pos c1] at h ⊢
      rw [if_neg (by have := (h3 h).1; omega)]
      exact scan_pick nx i h
    · rw [if_neg c1] at h ⊢
      by_cases c2 : (scan nx i).2 = [] ∨ nx.getD i 0 < (scan nx i).1
      · rw [if_pos c2]
        show [(i : Int)] = _
        rw [if_pos rfl, pick_none nx _ i ?_]
        · rfl
        · intro j hj
          show nx.getD j 0 ≠ nx.getD i 0
          rcases c2 with c2 | c2
          · have := h2 c2 j hj; omega
          · by_cases e2 : (scan nx i).2 = []
            · have := h2 e2 j (by omega); omega
            · by_cases hp : 0 ≤ nx.getD j 0
              · have := (h3 e2).2 j (by omega) hp; omega
              · omega
      · have hne : (scan nx i).2 ≠ [] := fun h => c2 (.inl h)
        rw [if_neg c2]
        by_cases c3 : nx.getD i 0 = (scan nx i).1
        · rw [if_pos c3]
          show (scan nx i).2 ++ _ = _
          rw [if_pos c3, ← scan_pick nx i hne]
        · rw [if_neg c3, if_neg c3]
          exact scan_pick nx i hne

/-! ### a round -/
def wt (t d : Int) : Int := d % (2 ^ (min t 10).toNat : Int)
def dr (ds : List Int) (us : Int) : Int := if ds.length = 0 then 0 else ds.getD (us % ds.length).toNat 0
def coll (ds : List Int) (v : Int) (s : Cst) (i : Nat) : Cst :=
  if s.tr.getD i 0 + 1 > 16 then ⟨s.nx.set i (-1), s.tr.set i (s.tr.getD i 0 + 1), s.sn.set i (-1), s.lf - 1, s.us⟩
  else ⟨s.nx.set i (v + 1 + wt (s.tr.getD i 0 + 1) (dr ds s.us)), s.tr.set i (s.tr.getD i 0 + 1), s.sn, s.lf, s.us + 1⟩
def collAll (ds : List Int) (v : Int) : List Int → Cst → Cst
  | [], s => s
  | i :: l, s => collAll ds v l (coll ds v s i.toNat)
theorem collAll_snoc (ds : List Int) (v : Int) : ∀ (l : List Int) (i : Int) (s : Cst), collAll ds v (l ++ [i]) s = coll ds v (collAll ds v l s) i.toNat
  | [], i, s => rfl
  | y :: l, i, s => by show collAll ds v (l ++ [i]) _ = _; rw [collAll_snoc]; rfl
def cstep (ds : List Int) (n : Nat) (s : Cst) : Cst :=
  if (scan s.nx n).2.length = 1 then ⟨s.nx.set ((scan s.nx n).2.getD 0 0).toNat (-1), s.tr, s.sn.set ((scan s.nx n).2.getD 0 0).toNat (scan s.nx n).1, s.lf - 1, s.us⟩
  else collAll ds (scan s.nx n).1 (scan s.nx n).2 s
def runs (ds : List Int) (n : Nat) : Nat → Cst → Cst
  | 0, s => s
  | m + 1, s => if s.lf > 0 then runs ds n m (cstep ds n s) else s
theorem runs_stop (ds : List Int) (n m : Nat) (s : Cst) (h : ¬ s.lf > 0) : runs ds n m s = s := by
  cases m with
  | zero => rfl
  | succ m => exact if_neg h
def start (n : Nat) : Cst := ⟨List.replicate n 0, List.replicate n 0, List.replicate n 0, n, 0⟩
def act (nx : List Int) : Int := (nx.countP fun x => decide (0 ≤ x) : Nat)
def sumI (xs : List Int) : Int := xs.sum
structure Good (n : Nat) (s : Cst) : Prop where
  ln : s.nx.length = n
  lt : s.tr.length = n
  ls : s.sn.length = n
  lo : ∀ j, j < n → -1 ≤ s.nx.getD j 0
  hi : ∀ j, j < n → s.nx.getD j 0 ≤ 1024 * sumI s.tr
  t0 : ∀ j, j < n → 0 ≤ s.tr.getD j 0 ∧ s.tr.getD j 0 ≤ 17
  ta : ∀ j, j < n → 0 ≤ s.nx.getD j 0 → s.tr.getD j 0 ≤ 16
  lf : s.lf = act s.nx
  u0 : 0 ≤ s.us
  u1 : s.us ≤ sumI s.tr
/-- How much is left to do. -/
def mu (n : Nat) (s : Cst) : Int := s.lf + (17 * n - sumI s.tr)

theorem act_set (xs : List Int) (i : Nat) (h : i < xs.length) (y : Int) : act (xs.set i y) = act xs - (if 0 ≤ xs.getD i 0 then 1 else 0) + (if 0 ≤ y then 1 else 0) := by
  unfold act
  induction xs generalizing i with
  | nil => exact absurd h (by simp)
  | cons x xs ih =>
    cases i with
    | zero =>
      simp only [List.set_cons_zero, List.countP_cons, List.getD_cons_zero]
      by_cases a : 0 ≤ x <;> by_cases b : 0 ≤ y <;> simp [a, b] <;> omega
    | succ i =>
      have := ih i (by simpa using h)
      simp only [List.set_cons_succ, List.countP_cons, List.getD_cons_succ]
      by_cases a : 0 ≤ x <;> simp only [a, decide_true, decide_false, if_true, if_false, Bool.false_eq_true] <;> omega
theorem sumI_set (xs : List Int) (i : Nat) (h : i < xs.length) (y : Int) : sumI (xs.set i y) = sumI xs - xs.getD i 0 + y := by
  unfold sumI
  induction xs generalizing i with
  | nil => exact absurd h (by simp)
  | cons x xs ih =>
    cases i with
    | zero => simp; omega
    | succ i =>
      have := ih i (by simpa using h)
      simp only [List.set_cons_succ, List.sum_cons, List.getD_cons_succ]
      omega
theorem sumI_le (xs : List Int) (h : ∀ j, j < xs.length → 0 ≤ xs.getD j 0 ∧ xs.getD j 0 ≤ 17) : 0 ≤ sumI xs ∧ sumI xs ≤ 17 * xs.length := by
  unfold sumI
  induction xs with
  | nil => simp
  | cons x xs ih =>
    have h0 := h 0 (by simp)
    have := ih fun j hj => by simpa using h (j + 1) (by simpa using hj)
    simp only [List.sum_cons, List.length_cons, List.getD_cons_zero] at *
    omega
theorem act_pos (xs : List Int) (h : act xs ≤ 0) : ∀ j, j < xs.length → xs.getD j 0 < 0 := by
  intro j hj
  by_cases c : xs.getD j 0 < 0
  · exact c
  · have : 0 < xs.countP fun x => decide (0 ≤ x) := List.countP_pos_iff.2 ⟨xs.getD j 0, by rw [List.getD_eq_getElem?_getD, List.getElem?_eq_getElem hj]; exact List.getElem_mem hj, decide_eq_true (by omega)⟩
    unfold act at h
    omega
theorem act_neg (xs : List Int) (h : ∀ j, j < xs.length → xs.getD j 0 < 0) : act xs = 0 := by
  unfold act
  have : xs.countP (fun x => decide (0 ≤ x)) = 0 := List.countP_eq_zero.2 fun x hx => by
    obtain ⟨j, hj, rfl⟩ := List.getElem_of_mem hx
    have := h j hj
    rw [List.getD_eq_getElem?_getD, List.getElem?_eq_getElem hj] at this
    simp at this ⊢
    exact this
  omega
theorem getD_set (xs : List Int) (i j : Nat) (y : Int) (h : i < xs.length) : (xs.set i y).getD j 0 = if j = i then y else xs.getD j 0 := by
  by_cases e : j = i
  · subst e
    rw [if_pos rfl, List.getD_eq_getElem?_getD, List.getElem?_set_self h]; rfl
  · rw [if_neg e, List.getD_eq_getElem?_getD, List.getElem?_set_ne (by omega), List.getD_eq_getElem?_getD]
theorem wt_range (t d : Int) : 0 ≤ wt t d ∧ wt t d ≤ 1023 := by
  unfold wt
  have h : (2 : Int) ^ (min t 10).toNat ≤ 2 ^ 10 := by exact_mod_cast Nat.pow_le_pow_right (by omega) (by omega)
  have h0 : (0 : Int) < 2 ^ (min t 10).toNat := by exact_mod_cast Nat.pow_pos (by omega)
  exact ⟨Int.emod_nonneg _ (by omega), by have := Int.emod_lt_of_pos d h0; omega⟩
theorem coll_good {ds : List Int} {n : Nat} {s : Cst} (g : Good n s) {v : Int} {i : Nat} (hi : i < n) (hv : s.nx.getD i 0 = v) (h0 : 0 ≤ v) : Good n (coll ds v s i) ∧ mu n (coll ds v s i) < mu n s ∧ ∀ j, j ≠ i → (coll ds v s i).nx.getD j 0 = s.nx.getD j 0 := by
  have hln := g.ln
  have hlt := g.lt
  have hls := g.ls
  have ht := g.t0 i hi
  have hta := g.ta i hi (by omega)
  have hhi := g.hi i hi
  have hlf := g.lf
  have hu0 := g.u0
  have hu1 := g.u1
  have hS := sumI_set s.tr i (by omega) (s.tr.getD i 0 + 1)
  unfold coll mu
  by_cases c : s.tr.getD i 0 + 1 > 16
  · rw [if_pos c]
    have hA := act_set s.nx i (by omega) (-1)
    rw [hv, if_pos h0, if_neg (by omega)] at hA
    refine ⟨⟨by simpa using hln, by simpa using hlt, by simpa using hls, fun j hj => ?_, fun j hj => ?_, fun j hj => ?_, fun j hj hp => ?_, ?_, hu0, ?_⟩, ?_, fun j hj => ?_⟩
    · show -1 ≤ (s.nx.set i (-1)).getD j 0
      rw [getD_set _ _ _ _ (by omega)]
      split
      · omega
      · exact g.lo j hj
    · show (s.nx.set i (-1)).getD j 0 ≤ 1024 * sumI (s.tr.set i _)
      rw [getD_set _ _ _ _ (by omega), hS]
      have := g.hi j hj
      split <;> omega
    · show 0 ≤ (s.tr.set i _).getD j 0 ∧ (s.tr.set i _).getD j 0 ≤ 17
      rw [getD_set _ _ _ _ (by omega)]
      have := g.t0 j hj
      split <;> omega
    · have hp : 0 ≤ (s.nx.set i (-1)).getD j 0 := hp
      show (s.tr.set i _).getD j 0 ≤ 16
      rw [getD_set _ _ _ _ (by omega)] at hp ⊢
      split at hp
      · omega
      · rename_i e
        rw [if_neg e]
        exact g.ta j hj hp
    · show s.lf - 1 = act (s.nx.set i (-1))
      rw [hA, hlf]; omega
    · show s.us ≤ sumI (s.tr.set i _)
      omega
    · show s.lf - 1 + (17 * n - sumI (s.tr.set i _)) < _
      omega
    · show (s.nx.set i (-1)).getD j 0 = _
      rw [getD_set _ _ _ _ (by omega), if_neg hj]
  · rw [if_neg c]
    have hw := wt_range (s.tr.getD i 0 + 1) (dr ds s.us)
    generalize wt (s.tr.getD i 0 + 1) (dr ds s.us) = x at hw ⊢
    have hA := act_set s.nx i (by omega) (v + 1 + x)
    rw [hv, if_pos h0, if_pos (by omega)] at hA
    refine ⟨⟨by simpa using hln, by simpa using hlt, hls, fun j hj => ?_, fun j hj => ?_, fun j hj => ?_, fun j hj hp => ?_, ?_, ?_, ?_⟩, ?_, fun j hj => ?_⟩
    · show -1 ≤ (s.nx.set i (v + 1 + x)).getD j 0
      rw [getD_set _ _ _ _ (by omega)]
      have := g.lo j hj
      split <;> omega
    · show (s.nx.set i (v + 1 + x)).getD j 0 ≤ 1024 * sumI (s.tr.set i _)
      rw [getD_set _ _ _ _ (by omega), hS]
      have := g.hi j hj
      split <;> omega
    · show 0 ≤ (s.tr.set i _).getD j 0 ∧ (s.tr.set i _).getD j 0 ≤ 17
      rw [getD_set _ _ _ _ (by omega)]
      have := g.t0 j hj
      split <;> omega
    · have hp : 0 ≤ (s.nx.set i (v + 1 + x)).getD j 0 := hp
      show (s.tr.set i _).getD j 0 ≤ 16
      rw [getD_set _ _ _ _ (by omega)] at hp ⊢
      by_cases e : j = i
      · rw [if_pos e]; omega
      · rw [if_neg e] at hp ⊢
        exact g.ta j hj hp
    · show s.lf = act (s.nx.set i (v + 1 + x))
      rw [hA, hlf]; omega
    · show 0 ≤ s.us + 1
      omega
    · show s.us + 1 ≤ sumI (s.tr.set i _)
      omega
    · show s.lf + (17 * n - sumI (s.tr.set i _)) < _
      omega
    · show (s.nx.set i (v + 1 + x)).getD j 0 = _
      rw [getD_set _ _ _ _ (by omega), if_neg hj]
/-- The stations that are still to collide. -/
def Pend (n : Nat) (v : Int) (l : List Int) (s : Cst) : Prop := l.Nodup ∧ ∀ y ∈ l, ∃ j : Nat, y = j ∧ j < n ∧ s.nx.getD j 0 = v
theorem Pend.next {n : Nat} {v : Int} {i : Nat} {l : List Int} {s s' : Cst} (h : Pend n v ((i : Int) :: l) s) (hs : ∀ j, j ≠ i → s'.nx.getD j 0 = s.nx.getD j 0) : Pend n v l s' := by
  obtain ⟨h1, h2⟩ := h
  have h1' := List.nodup_cons.1 h1
  refine ⟨h1'.2, fun y hy => ?_⟩
  obtain ⟨j, e, hj, hv⟩ := h2 y (List.mem_cons_of_mem _ hy)
  refine ⟨j, e, hj, ?_⟩
  rw [hs j ?_]
  · exact hv
  · rintro rfl
    exact h1'.1 (e ▸ hy)
theorem collAll_good {ds : List Int} {n : Nat} {v : Int} (h0 : 0 ≤ v) : ∀ (l : List Int) (s : Cst), Good n s → Pend n v l s → Good n (collAll ds v l s) ∧ mu n (collAll ds v l s) ≤ mu n s ∧ (l ≠ [] → mu n (collAll ds v l s) < mu n s)
  | [], s, g, _ => ⟨g, by unfold collAll; omega, fun h => absurd rfl h⟩
  | y :: l, s, g, h => by
    obtain ⟨j, rfl, hj, hv⟩ := h.2 y (List.mem_cons_self ..)
    obtain ⟨g1, m1, k1⟩ := coll_good (ds := ds) g hj hv h0
    obtain ⟨g2, m2, _⟩ := collAll_good h0 l _ g1 (h.next k1)
    unfold collAll
    rw [Int.toNat_natCast]
    exact ⟨g2, by omega, fun _ => by omega⟩
theorem scan_some {n : Nat} {s : Cst} (g : Good n s) (h : 0 < s.lf) : (scan s.nx n).2 ≠ [] := by
  intro e
  have := act_neg s.nx fun j hj => (scan_ok s.nx n).2.1 e j (by have := g.ln; omega)
  have := g.lf
  omega
theorem scan_pend (n : Nat) (s : Cst) : Pend n (scan s.nx n).1 (scan s.nx n).2 s := ⟨(scan_ok s.nx n).2.2.2, (scan_ok s.nx n).1⟩
theorem cstep_good {ds : List Int} {n : Nat} {s : Cst} (g : Good n s) (h : 0 < s.lf) : Good n (cstep ds n s) ∧ mu n (cstep ds n s) < mu n s := by
  have hne := scan_some g h
  have h0 := ((scan_ok s.nx n).2.2.1 hne).1
  have hp := scan_pend n s
  unfold cstep
  by_cases c : (scan s.nx n).2.length = 1
  · rw [if_pos c]
    obtain ⟨y, hy⟩ := List.length_eq_one_iff.1 c
    rw [hy] at hp ⊢
    obtain ⟨j, rfl, hj, hv⟩ := hp.2 y (by simp)
    have hln := g.ln
    show Good n ⟨s.nx.set (j : Int).toNat (-1), s.tr, s.sn.set (j : Int).toNat (scan s.nx n).1, s.lf - 1, s.us⟩ ∧ s.lf - 1 + (17 * n - sumI s.tr) < s.lf + (17 * n - sumI s.tr)
    rw [Int.toNat_natCast]
    have hA := act_set s.nx j (by omega) (-1)
    rw [hv, if_pos h0, if_neg (by omega)] at hA
    have hlf := g.lf
    refine ⟨⟨by simpa using hln, g.lt, by simpa using g.ls, fun i hi => ?_, fun i hi => ?_, g.t0, fun i hi hp => ?_, ?_, g.u0, g.u1⟩, by omega⟩
    · show -1 ≤ (s.nx.set j (-1)).getD i 0
      rw [getD_set _ _ _ _ (by omega)]
      have := g.lo i hi
      split <;> omega
    · show (s.nx.set j (-1)).getD i 0 ≤ 1024 * sumI s.tr
      rw [getD_set _ _ _ _ (by omega)]
      have := g.hi i hi
      have := g.u0
      have := g.u1
      split <;> omega
    · have hp : 0 ≤ (s.nx.set j (-1)).getD i 0 := hp
      rw [getD_set _ _ _ _ (by omega)] at hp
      split at hp
      · omega
      · exact g.ta i hi hp
    · show s.lf - 1 = act (s.nx.set j (-1))
      rw [hA, hlf]; omega
  · rw [if_neg c]
    obtain ⟨g1, _, m1⟩ := collAll_good (ds := ds) h0 _ s g hp
    exact ⟨g1, m1 hne⟩
theorem start_good (n : Nat) : Good n (start n) := by
  have e : ∀ j, j < n → (List.replicate n (0 : Int)).getD j 0 = 0 := fun j hj => by rw [List.getD_eq_getElem?_getD, List.getElem?_replicate]; simp [hj]
  have hs : sumI (List.replicate n (0 : Int)) = 0 := by unfold sumI; simp
  refine ⟨by simp [start], by simp [start], by simp [start], fun j hj => ?_, fun j hj => ?_, fun j hj => ?_, fun j hj _ => ?_, ?_, by simp [start], by show (0 : Int) ≤ sumI (List.replicate n 0); omega⟩
  · show -1 ≤ (List.replicate n (0 : Int)).getD j 0
    rw [e j hj]; omega
  · show (List.replicate n (0 : Int)).getD j 0 ≤ 1024 * sumI (List.replicate n 0)
    rw [e j hj, hs]; omega
  · show 0 ≤ (List.replicate n (0 : Int)).getD j 0 ∧ (List.replicate n (0 : Int)).getD j 0 ≤ 17
    rw [e j hj]; omega
  · show (List.replicate n (0 : Int)).getD j 0 ≤ 16
    rw [e j hj]; omega
  · show (n : Int) = act (List.replicate n 0)
    unfold act
    rw [List.countP_eq_length.2 fun x hx => by rw [(List.mem_replicate.1 hx).2]; rfl]
    simp
theorem mu_pos {n : Nat} {s : Cst} (g : Good n s) (h : 0 < s.lf) : 0 < mu n s := by
  have := (sumI_le s.tr fun j hj => g.t0 j (by have := g.lt; omega)).2
  have := g.lt
  unfold mu
  omega
theorem sum_le {n : Nat} {s : Cst} (g : Good n s) (hn : n ≤ 16) : sumI s.tr ≤ 272 := by
  have := (sumI_le s.tr fun j hj => g.t0 j (by have := g.lt; omega)).2
  have := g.lt
  omega
/-- What the stations' slots come to. -/
def contended (ds : List Int) (n : Nat) : List Int := (runs ds n 300 (start n)).sn
end Go.Proofs.Ytfeddgeihpfjfaa
