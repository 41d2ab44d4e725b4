/- Both contentions come to the same slots. -/
import Derived.Test.YtfeddgeihpfjfaaPk
import Derived.Test.YtfeddgeihpfjfaaCont
import Derived.Test.YtfeddgeihpfjfaaJBackoffSaysx2
set_option linter.unusedVariables false
set_option linter.unusedSimpArgs false
namespace Go.Proofs.Ytfeddgeihpfjfaa
open Go.RowKit Go.Proofs.YtfeddgeihpfjfaaW.PrintWords Go.Proofs.YtfeddgeihpfjfaaW.PrintLast Go.Proofs.YtfeddgeihpfjfaaW.PrintMore Go.Proofs.Ytfeddgeihpfjfaa.JBackoffSays

theorem two_mod (d n : Int) (h0 : 0 < n) (h1 : n ≤ 1024) : Int.tmod (wrap64 (Int.tmod d n + n)) n = d % n := by
  have h2 : Int.tmod d n = d - n * Int.tdiv d n := Int.tmod_def d n
  have h3 : -n < Int.tmod d n := Int.lt_tmod_of_pos d h0
  have h4 : Int.tmod d n < n := Int.tmod_lt_of_pos d h0
  rw [w64 (by omega) (by omega), Int.tmod_eq_emod_of_nonneg (by omega), h2]
  have e : d - n * Int.tdiv d n + n = d + n * (1 - Int.tdiv d n) := by rw [Int.mul_sub, Int.mul_one]; omega
  rw [e, Int.add_mul_emod_self_left]
theorem two_pow (i : Nat) (h : i ≤ 10) : (0 : Int) < 2 ^ i ∧ (2 : Int) ^ i ≤ 1024 := by
  refine ⟨by exact_mod_cast Nat.two_pow_pos i, ?_⟩
  have : (2 : Int) ^ i ≤ 2 ^ 10 := by exact_mod_cast Nat.pow_le_pow_right (by omega) h
  omega
theorem ev_waits_l (t d : Int) (h0 : 1 ≤ t) (h1 : t ≤ 16) (m : Nat) : ∀ i : Nat, i + m = (min t 10).toNat → Ev (fun k => patchbayref1_Waits.l0 k t d (2 ^ i) i) (wt t d) := by
  induction m with
  | zero =>
    intro i hi
    obtain ⟨p0, p1⟩ := two_pow i (by omega)
    have hw : wt t d = d % 2 ^ i := by unfold wt; rw [show (min t 10).toNat = i by omega]
    refine Ev.step (fun k => patchbayref1_Waits.l0.eq_2 ..) ?_
    by_cases c : (i : Int) < t
    · refine ev_pos c (ev_neg (by omega) (ev_neg (by omega) ?_))
      rw [two_mod d _ p0 p1, hw]
      exact Ev.now _
    · refine ev_neg c (ev_neg (by omega) ?_)
      rw [two_mod d _ p0 p1, hw]
      exact Ev.now _
  | succ m ih =>
    intro i hi
    obtain ⟨p0, p1⟩ := two_pow i (by omega)
    have h := ih (i + 1) (by omega)
    have e1 : Hid (wrap64 ((2 : Int) ^ i * 2) = 2 ^ (i + 1)) := by show _ = _; rw [w64 (by omega) (by omega), Int.pow_succ]
    have e2 : Hid (wrap64 ((i : Int) + 1) = ((i + 1 : Nat) : Int)) := by show _ = _; rw [w64 (by omega) (by omega)]; omega
    refine Ev.step (fun k => patchbayref1_Waits.l0.eq_2 ..) ?_
    refine ev_pos (by omega) (ev_pos (by omega) ?_)
    rw [e1.out, e2.out]
    exact h
theorem ev_waits (t d : Int) (h0 : 1 ≤ t) (h1 : t ≤ 16) : Ev (fun k => patchbayref1_Waits.f k t d) (wt t d) :=
  ev_waits_l t d h0 h1 (min t 10).toNat 0 (by omega)

theorem mem_pick (nx : List Int) (v : Int) : ∀ (i j : Nat), j < i → nx.getD j 0 = v → (j : Int) ∈ pick nx v i
  | 0, j, h, _ => absurd h (by omega)
  | i + 1, j, h, e => by
    unfold pick
    by_cases c : j = i
    · subst c
      rw [if_pos e]; simp
    · have := mem_pick nx v i j (by omega) e
      split
      · exact List.mem_append_left _ this
      · exact this
/-- Nothing that waits is due ahead of v + 1. -/
def Later (n : Nat) (v : Int) (nx : List Int) : Prop := ∀ j, j < n → 0 ≤ nx.getD j 0 → v ≤ nx.getD j 0
theorem coll_later {ds : List Int} {n : Nat} {v : Int} {l : List Int} {s : Cst} (g : Good n s) {i : Nat} (hi : i < n) (h0 : 0 ≤ v) (h : ∀ j, j < n → 0 ≤ s.nx.getD j 0 → v + 1 ≤ s.nx.getD j 0 ∨ (j : Int) ∈ (i : Int) :: l) :
    ∀ j, j < n → 0 ≤ (coll ds v s i).nx.getD j 0 → v + 1 ≤ (coll ds v s i).nx.getD j 0 ∨ (j : Int) ∈ l := by
  intro j hj
  have hln := g.ln
  have hw := wt_range (s.tr.getD i 0 + 1) (dr ds s.us)
  unfold coll
  by_cases c : s.tr.getD i 0 + 1 > 16
  · rw [if_pos c]
    show 0 ≤ (s.nx.set i (-1)).getD j 0 → v + 1 ≤ (s.nx.set i (-1)).getD j 0 ∨ _
    rw [getD_set _ _ _ _ (by omega)]
    by_cases e : j = i
    · rw [if_pos e]; omega
    · rw [if_neg e]
      intro hp
      rcases h j hj hp with h1 | h1
      · exact .inl h1
      · rcases List.mem_cons.1 h1 with h2 | h2
        · omega
        · exact .inr h2
  · rw [if_neg c]
    show 0 ≤ (s.nx.set i (v + 1 + wt (s.tr.getD i 0 + 1) (dr ds s.us))).getD j 0 → v + 1 ≤ (s.nx.set i (v + 1 + wt (s.tr.getD i 0 + 1) (dr ds s.us))).getD j 0 ∨ _
    rw [getD_set _ _ _ _ (by omega)]
    by_cases e : j = i
    · rw [if_pos e]; omega
    · rw [if_neg e]
      intro hp
      rcases h j hj hp with h1 | h1
      · exact .inl h1
      · rcases List.mem_cons.1 h1 with h2 | h2
        · omega
        · exact .inr h2
theorem collAll_later {ds : List Int} {n : Nat} {v : Int} (h0 : 0 ≤ v) : ∀ (l : List Int) (s : Cst), Good n s → Pend n v l s → (∀ j, j < n → 0 ≤ s.nx.getD j 0 → v + 1 ≤ s.nx.getD j 0 ∨ (j : Int) ∈ l) → Later n (v + 1) (collAll ds v l s).nx
  | [], s, _, _, h => fun j hj hp => (h j hj hp).elim id (fun h => absurd h (by simp))
  | y :: l, s, g, p, h => by
    obtain ⟨j, rfl, hj, hv⟩ := p.2 y (List.mem_cons_self ..)
    obtain ⟨g1, _, k1⟩ := coll_good (ds := ds) g hj hv h0
    unfold collAll
    rw [Int.toNat_natCast]
    exact collAll_later h0 l _ g1 (p.next k1) (coll_later g hj h0 h)
theorem cstep_later {ds : List Int} {n : Nat} {s : Cst} (g : Good n s) (h : 0 < s.lf) : Later n ((scan s.nx n).1 + 1) (cstep ds n s).nx := by
  have hne := scan_some g h
  obtain ⟨h1, h2, h3, h4⟩ := scan_ok s.nx n
  obtain ⟨h0, hmin⟩ := h3 hne
  have hp := scan_pend n s
  have hpk := scan_pick s.nx n hne
  have hall : ∀ j, j < n → 0 ≤ s.nx.getD j 0 → (scan s.nx n).1 + 1 ≤ s.nx.getD j 0 ∨ (j : Int) ∈ (scan s.nx n).2 := by
    intro j hj hq
    by_cases e : s.nx.getD j 0 = (scan s.nx n).1
    · exact .inr (by rw [hpk]; exact mem_pick _ _ n j hj e)
    · have := hmin j hj hq
      exact .inl (by omega)
  unfold cstep
  by_cases c : (scan s.nx n).2.length = 1
  · rw [if_pos c]
    obtain ⟨y, hy⟩ := List.length_eq_one_iff.1 c
    rw [hy] at hp hall ⊢
    obtain ⟨i, rfl, hi, hv⟩ := hp.2 y (by simp)
    have hln := g.ln
    intro j hj
    show 0 ≤ (s.nx.set (i : Int).toNat (-1)).getD j 0 → _ ≤ (s.nx.set (i : Int).toNat (-1)).getD j 0
    rw [Int.toNat_natCast, getD_set _ _ _ _ (by omega)]
    by_cases e : j = i
    · rw [if_pos e]; omega
    · rw [if_neg e]
      intro hq
      rcases hall j hj hq with h | h
      · exact h
      · have : (j : Int) = i := by simpa using h
        omega
  · rw [if_neg c]
    exact collAll_later h0 _ s g hp hall

theorem lf_range {n : Nat} {s : Cst} (g : Good n s) (hn : n ≤ 16) : 0 ≤ s.lf ∧ s.lf ≤ 16 := by
  have h1 := g.lf
  have h5 : act s.nx ≤ s.nx.length := by unfold act; exact_mod_cast List.countP_le_length
  have h6 := g.ln
  unfold act at *
  omega
theorem rd_nat (xs : List Int) (j : Nat) : rd xs (j : Int) = xs.getD j 0 := by unfold rd; rw [Int.toNat_natCast]

/-- The collisions of a slot, one by one. -/
theorem ev_coll (ds : List Int) (n : Nat) (hn : n ≤ 16) (v : Int) (h0 : 0 ≤ v) (hv : v ≤ 278528) (L : List Int) (hL : L.length ≤ 16) (R : List Int) (m : Nat) : ∀ (q : Nat) (s : Cst), q + m = L.length → Good n s → Pend n v (L.drop q) s →
    Ev (fun k => patchbayref1_Contended.l0 k ds (collAll ds v (L.drop q) s).sn (collAll ds v (L.drop q) s).nx (collAll ds v (L.drop q) s).tr (collAll ds v (L.drop q) s).lf (collAll ds v (L.drop q) s).us (v + 1)) R →
    Ev (fun k => patchbayref1_Contended.l2 k ds s.sn s.nx s.tr s.lf s.us v L L.length q) R := by
  induction m with
  | zero =>
    intro q s hq g p h
    rw [List.drop_of_length_le (by omega)] at h
    refine Ev.step (fun k => patchbayref1_Contended.l2.eq_2 ..) (ev_neg (by omega) ?_)
    rw [w64 (by omega) (by omega)]
    exact h
  | succ m ih =>
    intro q s hq g p h
    have hlt : q < L.length := by omega
    have hd : L.drop q = L.getD q 0 :: L.drop (q + 1) := by
      rw [List.drop_eq_getElem_cons hlt, List.getD_eq_getElem?_getD, List.getElem?_eq_getElem hlt]; rfl
    rw [hd] at p h
    obtain ⟨j, hj, hjn, hjv⟩ := p.2 _ (List.mem_cons_self ..)
    rw [hj] at p h
    obtain ⟨g1, _, k1⟩ := coll_good (ds := ds) g hjn hjv h0
    have hx : collAll ds v ((j : Int) :: L.drop (q + 1)) s = collAll ds v (L.drop (q + 1)) (coll ds v s j) := by
      show collAll ds v _ (coll ds v s (j : Int).toNat) = _
      rw [Int.toNat_natCast]
    rw [hx] at h
    have hnext := ih (q + 1) (coll ds v s j) (by omega) g1 (p.next k1) h
    have ht := g.t0 j hjn
    have hln := g.ln
    have hlt2 := g.lt
    have hls := g.ls
    have hlf := lf_range g hn
    have hu0 := g.u0
    have hu1 : s.us ≤ 272 := by have := g.u1; have := sum_le g hn; omega
    have ew : Hid (wrap64 ((q : Int) + 1) = ((q + 1 : Nat) : Int)) := by show _ = _; rw [w64 (by omega) (by omega)]; omega
    refine Ev.step (fun k => patchbayref1_Contended.l2.eq_2 ..) ?_
    rw [rd_nat L q, hj, ew.out]
    refine ev_pos (by omega) ?_
    refine ev_pos (by omega) ?_
    refine ev_pos (by omega) ?_
    have e1 : Hid (wrap64 (rd s.tr (j : Int) + 1) = s.tr.getD j 0 + 1) := by show _ = _; rw [rd_nat, w64 (by omega) (by omega)]
    rw [e1.out, Int.toNat_natCast]
    refine ev_pos (by omega) ?_
    refine ev_pos (by omega) ?_
    refine ev_bind1 rfl ?_
    have e2 : rd (s.tr.set j (s.tr.getD j 0 + 1)) (j : Int) = s.tr.getD j 0 + 1 := by rw [rd_nat, getD_set _ _ _ _ (by omega), if_pos rfl]
    rw [e2]
    unfold coll at hnext
    by_cases c : s.tr.getD j 0 + 1 > 16
    · rw [if_pos c] at hnext
      refine ev_pos c (ev_pos (by omega) (ev_pos (by omega) ?_))
      rw [w64 (x := s.lf - 1) (by omega) (by omega)]
      exact hnext
    · rw [if_neg c] at hnext
      refine ev_neg c ?_
      have hwr := wt_range (s.tr.getD j 0 + 1) (dr ds s.us)
      have hwv : Ev (fun k => patchbayref1_Waits.f k (s.tr.getD j 0 + 1) (dr ds s.us)) (wt (s.tr.getD j 0 + 1) (dr ds s.us)) := ev_waits _ _ (by omega) (by omega)
      generalize wt (s.tr.getD j 0 + 1) (dr ds s.us) = x at *
      have e3 : Hid (wrap64 (wrap64 (v + 1) + x) = v + 1 + x) := by show _ = _; rw [w64 (x := v + 1) (by omega) (by omega), w64 (by omega) (by omega)]
      have e4 : Hid (wrap64 (s.us + 1) = s.us + 1) := w64 (by omega) (by omega)
      rw [e4.out]
      by_cases cd : ds.length = 0
      · have hdr : dr ds s.us = 0 := if_pos cd
        rw [hdr] at hwv
        refine ev_neg (by omega) (Ev.bind hwv (ev_pos (by omega) ?_))
        rw [e3.out]
        exact hnext
      · have hdr : dr ds s.us = rd ds (s.us % (ds.length : Int)) := (if_neg cd).trans rfl
        rw [hdr] at hwv
        have hu2 : 0 ≤ s.us % (ds.length : Int) := Int.emod_nonneg _ (by omega)
        have hu3 : s.us % (ds.length : Int) < ds.length := Int.emod_lt_of_pos _ (by omega)
        have e5 : Int.tmod s.us (ds.length : Int) = s.us % (ds.length : Int) := Int.tmod_eq_emod_of_nonneg hu0
        rw [e5]
        refine ev_pos (by omega) (ev_neg (by omega) (ev_pos hu2 (ev_pos hu3 (Ev.bind hwv (ev_pos (by omega) ?_)))))
        rw [e3.out]
        exact hnext
/-- Who is due in a slot. -/
theorem ev_now (ds : List Int) (n : Nat) (hn : n ≤ 16) (v : Int) (s : Cst) (g : Good n s) (R : List Int)
    (h : Ev (fun k => if ((pick s.nx v n).length : Int) = 1 then (if 0 < ((pick s.nx v n).length : Int) then (if 0 ≤ (rd (pick s.nx v n) 0) then (if (rd (pick s.nx v n) 0) < (s.sn.length : Int) then (if (rd (pick s.nx v n) 0) < (s.nx.length : Int) then (patchbayref1_Contended.l0 k ds (s.sn.set ((rd (pick s.nx v n) 0) : Int).toNat v) (s.nx.set ((rd (pick s.nx v n) 0) : Int).toNat (-1)) s.tr (wrap64 (s.lf - 1)) s.us (wrap64 (v + 1))) else (none)) else (none)) else (none)) else (none)) else (patchbayref1_Contended.l2 k ds s.sn s.nx s.tr s.lf s.us v (pick s.nx v n) ((pick s.nx v n).length : Int) 0)) R) (m : Nat) :
    ∀ i : Nat, i + m = n → Ev (fun k => patchbayref1_Contended.l1 k ds s.sn s.nx s.tr s.lf s.us v (pick s.nx v i) s.nx s.nx.length i) R := by
  have hln := g.ln
  induction m with
  | zero =>
    intro i hi
    obtain rfl : i = n := by omega
    exact Ev.step (fun k => patchbayref1_Contended.l1.eq_2 ..) (ev_neg (by omega) h)
  | succ m ih =>
    intro i hi
    have hx := ih (i + 1) (by omega)
    have ew : Hid (wrap64 ((i : Int) + 1) = ((i + 1 : Nat) : Int)) := by show _ = _; rw [w64 (by omega) (by omega)]; omega
    have hl : (pick s.nx v i).length ≤ i := by
      have : ∀ i, (pick s.nx v i).length ≤ i := by
        intro i
        induction i with
        | zero => simp [pick]
        | succ i ih2 =>
          unfold pick
          split
          · rw [List.length_append]; simp; omega
          · omega
      exact this i
    refine Ev.step (fun k => patchbayref1_Contended.l1.eq_2 ..) (ev_pos (by omega) (ev_pos (by omega) (ev_pos (by omega) ?_)))
    rw [rd_nat, ew.out]
    unfold pick at hx
    by_cases c : s.nx.getD i 0 = v
    · rw [if_pos c] at hx
      exact ev_pos c (ev_pos (by omega) hx)
    · rw [if_neg c] at hx
      exact ev_neg c hx
/-- From a slot on. -/
theorem ev_slot (ds : List Int) (n : Nat) (hn : n ≤ 16) (R : List Int) (s : Cst) (g : Good n s) (hl : 0 < s.lf)
    (h : Ev (fun k => patchbayref1_Contended.l0 k ds (cstep ds n s).sn (cstep ds n s).nx (cstep ds n s).tr (cstep ds n s).lf (cstep ds n s).us ((scan s.nx n).1 + 1)) R) (d : Nat) :
    ∀ v : Int, 0 ≤ v → v + d = (scan s.nx n).1 → Ev (fun k => patchbayref1_Contended.l0 k ds s.sn s.nx s.tr s.lf s.us v) R := by
  have hne := scan_some g hl
  obtain ⟨h1, h2, h3, h4⟩ := scan_ok s.nx n
  obtain ⟨h0, hmin⟩ := h3 hne
  have hln := g.ln
  have hls := g.ls
  have hlf := lf_range g hn
  have hmx : (scan s.nx n).1 ≤ 278528 := by
    obtain ⟨y, hy⟩ := List.exists_mem_of_ne_nil _ hne
    obtain ⟨j, _, hj, hv⟩ := h1 y hy
    have := g.hi j hj
    have := sum_le g hn
    omega
  induction d with
  | zero =>
    intro v hv0 hv
    have hv' : v = (scan s.nx n).1 := by omega
    subst hv'
    refine Ev.step (fun k => patchbayref1_Contended.l0.eq_2 ..) (ev_pos hl (ev_now ds n hn _ s g R ?_ n 0 (by omega)))
    rw [← scan_pick s.nx n hne]
    by_cases c : (scan s.nx n).2.length = 1
    · unfold cstep at h
      rw [if_pos c] at h
      obtain ⟨y, hy⟩ := List.length_eq_one_iff.1 c
      rw [hy] at h ⊢
      obtain ⟨j, rfl, hj, hv⟩ := h1 y (by rw [hy]; simp)
      have e1 : rd [(j : Int)] 0 = (j : Int) := rfl
      rw [e1, w64 (x := s.lf - 1) (by omega) (by omega), w64 (x := (scan s.nx n).1 + 1) (by omega) (by omega)]
      have e2 : ([(j : Int)].getD 0 0) = (j : Int) := rfl
      rw [e2] at h
      exact ev_pos (by simp) (ev_pos (by simp) (ev_pos (by omega) (ev_pos (by omega) (ev_pos (by omega) h))))
    · unfold cstep at h
      rw [if_neg c] at h
      refine ev_neg (by omega) ?_
      exact ev_coll ds n hn _ h0 hmx _ (by have := scan_len s.nx n; omega) R (scan s.nx n).2.length 0 s (by omega) g (scan_pend n s) h
  | succ d ih =>
    intro v hv0 hv
    have hx := ih (v + 1) (by omega) (by omega)
    have hpn : pick s.nx v n = [] := pick_none _ _ _ fun j hj => by
      by_cases hp : 0 ≤ s.nx.getD j 0
      · have := hmin j hj hp; omega
      · omega
    refine Ev.step (fun k => patchbayref1_Contended.l0.eq_2 ..) (ev_pos hl (ev_now ds n hn _ s g R ?_ n 0 (by omega)))
    rw [hpn]
    refine ev_neg (by simp) (Ev.step (fun k => patchbayref1_Contended.l2.eq_2 ..) (ev_neg (by simp) ?_))
    rw [w64 (x := v + 1) (by omega) (by omega)]
    exact hx
theorem ev_runs (ds : List Int) (n : Nat) (hn : n ≤ 16) (m : Nat) : ∀ (s : Cst) (v : Int), Good n s → mu n s ≤ m → 0 ≤ v → Later n v s.nx → Ev (fun k => patchbayref1_Contended.l0 k ds s.sn s.nx s.tr s.lf s.us v) (runs ds n m s).sn := by
  induction m with
  | zero =>
    intro s v g hm hv hL
    have hl : ¬ s.lf > 0 := fun h => by have := mu_pos g h; omega
    exact Ev.step (fun k => patchbayref1_Contended.l0.eq_2 ..) (ev_neg hl (Ev.now _))
  | succ m ih =>
    intro s v g hm hv hL
    by_cases hl : s.lf > 0
    · obtain ⟨g1, hm1⟩ := cstep_good (ds := ds) g hl
      have hlat := cstep_later (ds := ds) g hl
      have hne := scan_some g hl
      obtain ⟨h1, h2, h3, h4⟩ := scan_ok s.nx n
      obtain ⟨h0, hmin⟩ := h3 hne
      obtain ⟨y, hy⟩ := List.exists_mem_of_ne_nil _ hne
      obtain ⟨j, _, hj, hvj⟩ := h1 y hy
      have hvle : v ≤ (scan s.nx n).1 := by have := hL j hj (by omega); omega
      have hx := ih (cstep ds n s) ((scan s.nx n).1 + 1) g1 (by omega) (by omega) hlat
      have e : (runs ds n (m + 1) s) = runs ds n m (cstep ds n s) := if_pos hl
      rw [e]
      exact ev_slot ds n hn _ s g hl hx ((scan s.nx n).1 - v).toNat v hv (by omega)
    · rw [runs_stop ds n _ s hl]
      exact Ev.step (fun k => patchbayref1_Contended.l0.eq_2 ..) (ev_neg hl (Ev.now _))
theorem ev_contended (ds : List Int) (n : Nat) (hn : n ≤ 16) : Ev (fun k => patchbayref1_Contended.f k n ds) (contended ds n) := by
  have hmu : mu n (start n) ≤ (300 : Nat) := by
    have hs : sumI (List.replicate n (0 : Int)) = 0 := by unfold sumI; simp
    show (n : Int) + (17 * n - sumI (List.replicate n 0)) ≤ 300
    omega
  have h := ev_runs ds n hn 300 (start n) 0 (start_good n) hmu (by omega) (fun j _ h => h)
  unfold patchbayref1_Contended.f
  refine ev_pos (by omega) (ev_pos (by omega) ?_)
  rw [Int.toNat_natCast]
  exact h
theorem contended_len (ds : List Int) (n : Nat) (hn : n ≤ 16) : (contended ds n).length = n := by
  have : ∀ (m : Nat) (s : Cst), Good n s → (runs ds n m s).sn.length = n := by
    intro m
    induction m with
    | zero => intro s g; exact g.ls
    | succ m ih =>
      intro s g
      unfold runs
      split
      · exact ih _ (cstep_good g (by omega)).1
      · exact g.ls
  exact this 300 _ (start_good n)
end Go.Proofs.Ytfeddgeihpfjfaa
