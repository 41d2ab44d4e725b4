/- The plain law of MediumSays: both checks, presence, collisions. -/
import Derived.Test.YtfeddgeihpfjfaaPMed
set_option linter.unusedVariables false
set_option linter.unusedSimpArgs false
namespace Go.Proofs.Ytfeddgeihpfjfaa
open Go.RowKit Go.Proofs.YtfeddgeihpfjfaaW.PrintWords Go.Proofs.YtfeddgeihpfjfaaW.PrintLast Go.Proofs.YtfeddgeihpfjfaaW.PrintMore Go.Proofs.Ytfeddgeihpfjfaa.PMediumSays

theorem chk0 (l0 : List Int) (ts : List S68) (hn : l0.length ≤ 16) (hm : ts.length ≤ 32) (d : Nat) : ∀ i : Int, 0 ≤ i → i ≤ l0.length → (l0.length : Int) - i = d →
    ∃ r, Ev (fun k => medium_Check.l0 k l0 ts l0 l0.length i) r ∧ Ev (fun k => patchbayref1_LineErr.l0 k l0 ts l0 l0.length i) r ∧ (r = 0 → (∀ j : Int, i ≤ j → j < l0.length → 0 ≤ rd l0 j ∧ rd l0 j ≤ 1000) ∧ ∀ j : Int, 0 ≤ j → j < ts.length → okTk l0.length (rd_T68 ts j)) := by
  induction d with
  | zero =>
    intro i h0 h1 hd
    obtain ⟨r, e1, e2, e3⟩ := chk1 l0 ts hn hm ts.length 0 (by omega) (by omega) (by omega)
    refine ⟨r, ?_, ?_, fun h => ⟨fun j h2 h3 => by omega, e3 h⟩⟩
    · refine Ev.step (fun k => medium_Check.l0.eq_2 ..) ?_
      exact ev_neg (by omega) e1
    · refine Ev.step (fun k => patchbayref1_LineErr.l0.eq_2 ..) ?_
      exact ev_neg (by omega) e2
  | succ d ih =>
    intro i h0 h1 hd
    have hlt : i < (l0.length : Int) := by omega
    have hw : wrap64 (i + 1) = i + 1 := w64 (by omega) (by omega)
    obtain ⟨r, e1, e2, e3⟩ := ih (i + 1) (by omega) (by omega) (by omega)
    have hb := btw_some (rd l0 i) 0 1000
    by_cases g : 0 ≤ rd l0 i ∧ rd l0 i ≤ 1000
    · refine ⟨r, ?_, ?_, fun h => ⟨fun j h2 h3 => ?_, (e3 h).2⟩⟩
      · refine Ev.step (fun k => medium_Check.l0.eq_2 ..) ?_
        rw [hw]
        exact ev_pos hlt (ev_pos h0 (ev_pos hlt (ev_neg (by omega) (ev_neg (by omega) e1))))
      · refine Ev.step (fun k => patchbayref1_LineErr.l0.eq_2 ..) ?_
        rw [hw]
        exact ev_pos hlt (ev_pos h0 (ev_pos hlt (ev_bind1 hb (ev_pos (by simp; omega) e2))))
      · by_cases c : j = i
        · subst c; exact g
        · exact (e3 h).1 j (by omega) h3
    · refine ⟨10, ?_, ?_, fun h => by omega⟩
      · refine Ev.step (fun k => medium_Check.l0.eq_2 ..) ?_
        refine ev_pos hlt (ev_pos h0 (ev_pos hlt ?_))
        by_cases c : rd l0 i < 0
        · exact ev_pos c (Ev.now _)
        · exact ev_neg c (ev_pos (by omega) (Ev.now _))
      · refine Ev.step (fun k => patchbayref1_LineErr.l0.eq_2 ..) ?_
        exact ev_pos hlt (ev_pos h0 (ev_pos hlt (ev_bind1 hb (ev_neg (by simp; omega) (Ev.now _)))))

/-- What both checks find. -/
structure LineOk (l0 : List Int) (ts : List S68) : Prop where
  hn : l0.length ≤ 16
  hm : ts.length ≤ 32
  places : ∀ j : Int, 0 ≤ j → j < l0.length → 0 ≤ rd l0 j ∧ rd l0 j ≤ 1000
  talks : ∀ j : Int, 0 ≤ j → j < ts.length → okTk l0.length (rd_T68 ts j)

theorem chk (l0 : List Int) (ts : List S68) : ∃ r, Ev (fun k => medium_Check.f k l0 ts) r ∧ Ev (fun k => patchbayref1_LineErr.f k l0 ts) r ∧ (r = 0 → LineOk l0 ts) := by
  by_cases h : l0.length ≤ 16 ∧ ts.length ≤ 32
  · obtain ⟨r, e1, e2, e3⟩ := chk0 l0 ts h.1 h.2 l0.length 0 (by omega) (by omega) (by omega)
    refine ⟨r, ?_, ?_, fun hr => ⟨h.1, h.2, (e3 hr).1, (e3 hr).2⟩⟩
    · unfold medium_Check.f
      refine ev_neg (by omega) (Ev.step (fun k => medium_Check.j0.eq_2 ..) ?_)
      exact ev_neg (by simp; omega) e1
    · unfold patchbayref1_LineErr.f
      refine ev_neg (by omega) (Ev.step (fun k => patchbayref1_LineErr.j0.eq_2 ..) ?_)
      exact ev_neg (by simp; omega) e2
  · refine ⟨2, ?_, ?_, fun hr => by omega⟩
    · unfold medium_Check.f
      by_cases c : (l0.length : Int) > 16
      · exact ev_pos c (Ev.step (fun k => medium_Check.j0.eq_2 ..) (ev_pos rfl (Ev.now _)))
      · exact ev_neg c (Ev.step (fun k => medium_Check.j0.eq_2 ..) (ev_pos (by simp; omega) (Ev.now _)))
    · unfold patchbayref1_LineErr.f
      by_cases c : (l0.length : Int) > 16
      · exact ev_pos c (Ev.step (fun k => patchbayref1_LineErr.j0.eq_2 ..) (ev_pos rfl (Ev.now _)))
      · exact ev_neg c (Ev.step (fun k => patchbayref1_LineErr.j0.eq_2 ..) (ev_pos (by simp; omega) (Ev.now _)))

/-- How far apart. -/
def dst (l0 : List Int) (i j : Int) : Int := if rd l0 i - rd l0 j < 0 then -(rd l0 i - rd l0 j) else rd l0 i - rd l0 j

theorem dst_range {l0 : List Int} {ts : List S68} (h : LineOk l0 ts) {i j : Int} (i0 : 0 ≤ i) (i1 : i < l0.length) (j0 : 0 ≤ j) (j1 : j < l0.length) : 0 ≤ dst l0 i j ∧ dst l0 i j ≤ 1000 := by
  have h1 := h.places i i0 i1
  have h2 := h.places j j0 j1
  unfold dst; split <;> omega

theorem distance_some {l0 : List Int} {ts : List S68} (h : LineOk l0 ts) {i j : Int} (i0 : 0 ≤ i) (i1 : i < l0.length) (j0 : 0 ≤ j) (j1 : j < l0.length) : patchbayref1_Distance.f l0 i j = some (dst l0 i j) := by
  have h1 := h.places i i0 i1
  have h2 := h.places j j0 j1
  unfold patchbayref1_Distance.f
  rw [if_pos i0, if_pos i1, if_pos j0, if_pos j1, w64 (by omega) (by omega)]
  unfold dst
  split
  · rw [w64 (by omega) (by omega)]
  · rfl

theorem begins_some {l0 : List Int} {ts : List S68} (h : LineOk l0 ts) {i j a l : Int} (i0 : 0 ≤ i) (i1 : i < l0.length) (j0 : 0 ≤ j) (j1 : j < l0.length) (ha : 0 ≤ a ∧ a ≤ 1000000) : medium_begins.f l0 i a l j = some (a + dst l0 i j) := by
  have h1 := h.places i i0 i1
  have h2 := h.places j j0 j1
  unfold medium_begins.f
  rw [if_pos i0, if_pos i1, if_pos j0, if_pos j1, w64 (x := rd l0 i - rd l0 j) (by omega) (by omega), w64 (x := rd l0 j - rd l0 i) (by omega) (by omega)]
  unfold mx dst
  rw [w64]
  · congr 2
    split <;> split <;> omega
  · split <;> omega
  · split <;> omega

theorem present_some {l0 : List Int} {ts : List S68} (h : LineOk l0 ts) {i j a l t : Int} (i0 : 0 ≤ i) (i1 : i < l0.length) (j0 : 0 ≤ j) (j1 : j < l0.length) (ha : 0 ≤ a ∧ a ≤ 1000000) (hl : 1 ≤ l ∧ l ≤ 10000) (ht : 0 ≤ t ∧ t ≤ 2000000000) :
    patchbayref1_Present.f l0 i a l j t = some (decide (a + dst l0 i j ≤ t ∧ t < a + dst l0 i j + l)) := by
  have hd := dst_range h i0 i1 j0 j1
  unfold patchbayref1_Present.f
  rw [distance_some h i0 i1 j0 j1]
  simp only [Option.bind_some, btw_some]
  rw [w64 (x := t - dst l0 i j) (by omega) (by omega), w64 (x := t - dst l0 i j - a) (by omega) (by omega), w64 (x := l - 1) (by omega) (by omega)]
  congr 1
  rw [Bool.eq_iff_iff]; simp; omega

/-- Do they meet at a station from i on? -/
theorem meets {l0 : List Int} {ts : List S68} (h : LineOk l0 ts) (x y : S68) (hx : okTk l0.length x) (hy : okTk l0.length y) (d : Nat) : ∀ i : Int, 0 ≤ i → i ≤ l0.length → (l0.length : Int) - i = d →
    ∃ r, Ev (fun k => medium_meet.l0 k l0 l0.length i x.f0 x.f1 x.f2 y.f0 y.f1 y.f2) r ∧ Ev (fun k => patchbayref1_Collide.l0 k l0 l0.length i x.f0 x.f1 x.f2 y.f0 y.f1 y.f2) r := by
  have hn := h.hn
  obtain ⟨⟨xf0, xf1⟩, ⟨xa0, xa1⟩, xl0, xl1⟩ := hx
  obtain ⟨⟨yf0, yf1⟩, ⟨ya0, ya1⟩, yl0, yl1⟩ := hy
  induction d with
  | zero =>
    intro i h0 h1 hd
    refine ⟨false, ?_, ?_⟩
    · exact Ev.step (fun k => medium_meet.l0.eq_2 ..) (ev_neg (by omega) (Ev.now _))
    · exact Ev.step (fun k => patchbayref1_Collide.l0.eq_2 ..) (ev_neg (by omega) (Ev.now _))
  | succ d ih =>
    intro i h0 h1 hd
    have hlt : i < (l0.length : Int) := by omega
    have hw : wrap64 (i + 1) = i + 1 := w64 (by omega) (by omega)
    obtain ⟨r, e1, e2⟩ := ih (i + 1) (by omega) (by omega) (by omega)
    have dx := dst_range h xf0 xf1 h0 hlt
    have dy := dst_range h yf0 yf1 h0 hlt
    have b1 := begins_some (l := x.f2) h xf0 xf1 h0 hlt ⟨xa0, xa1⟩
    have b2 := begins_some (l := y.f2) h yf0 yf1 h0 hlt ⟨ya0, ya1⟩
    have p1 := present_some (t := wrap64 (y.f1 + dst l0 y.f0 i)) h xf0 xf1 h0 hlt ⟨xa0, xa1⟩ ⟨xl0, xl1⟩ (by rw [w64 (by omega) (by omega)]; omega)
    have p2 := present_some (t := wrap64 (x.f1 + dst l0 x.f0 i)) h yf0 yf1 h0 hlt ⟨ya0, ya1⟩ ⟨yl0, yl1⟩ (by rw [w64 (by omega) (by omega)]; omega)
    have d1 := distance_some h xf0 xf1 h0 hlt
    have d2 := distance_some h yf0 yf1 h0 hlt
    have w1 : wrap64 (y.f1 + dst l0 y.f0 i) = y.f1 + dst l0 y.f0 i := w64 (by omega) (by omega)
    have w2 : wrap64 (x.f1 + dst l0 x.f0 i) = x.f1 + dst l0 x.f0 i := w64 (by omega) (by omega)
    have w3 : wrap64 (y.f1 + dst l0 y.f0 i + y.f2) = y.f1 + dst l0 y.f0 i + y.f2 := w64 (by omega) (by omega)
    have w4 : wrap64 (x.f1 + dst l0 x.f0 i + x.f2) = x.f1 + dst l0 x.f0 i + x.f2 := w64 (by omega) (by omega)
    have hc : ∀ r, Ev (fun k => if x.f1 + dst l0 x.f0 i < y.f1 + dst l0 y.f0 i + y.f2 then (if y.f1 + dst l0 y.f0 i < x.f1 + dst l0 x.f0 i + x.f2 then (some true) else (medium_meet.l0 k l0 l0.length (i + 1) x.f0 x.f1 x.f2 y.f0 y.f1 y.f2)) else (medium_meet.l0 k l0 l0.length (i + 1) x.f0 x.f1 x.f2 y.f0 y.f1 y.f2)) r → Ev (fun k => medium_meet.l0 k l0 l0.length i x.f0 x.f1 x.f2 y.f0 y.f1 y.f2) r := by
      intro r hh
      refine Ev.step (fun k => medium_meet.l0.eq_2 ..) ?_
      refine ev_pos hlt (ev_bind1 b1 (ev_bind1 b2 ?_))
      rw [w3, w4, hw]; exact hh
    have hr : ∀ r, Ev (fun k => if decide (x.f1 + dst l0 x.f0 i ≤ y.f1 + dst l0 y.f0 i ∧ y.f1 + dst l0 y.f0 i < x.f1 + dst l0 x.f0 i + x.f2) = true then (some true) else if decide (y.f1 + dst l0 y.f0 i ≤ x.f1 + dst l0 x.f0 i ∧ x.f1 + dst l0 x.f0 i < y.f1 + dst l0 y.f0 i + y.f2) = true then (some true) else (patchbayref1_Collide.l0 k l0 l0.length (i + 1) x.f0 x.f1 x.f2 y.f0 y.f1 y.f2)) r → Ev (fun k => patchbayref1_Collide.l0 k l0 l0.length i x.f0 x.f1 x.f2 y.f0 y.f1 y.f2) r := by
      intro r hh
      rw [w1] at p1
      rw [w2] at p2
      refine Ev.step (fun k => patchbayref1_Collide.l0.eq_2 ..) ?_
      refine ev_pos hlt (ev_bind1 d2 ?_)
      rw [w1, hw]
      refine ev_bind1 p1 ?_
      by_cases c : decide (x.f1 + dst l0 x.f0 i ≤ y.f1 + dst l0 y.f0 i ∧ y.f1 + dst l0 y.f0 i < x.f1 + dst l0 x.f0 i + x.f2) = true
      · simp only [if_pos c] at hh
        exact ev_pos c hh
      · simp only [if_neg c] at hh
        refine ev_neg c (ev_bind1 d1 ?_)
        rw [w2]
        exact ev_bind1 p2 hh
    by_cases g : x.f1 + dst l0 x.f0 i < y.f1 + dst l0 y.f0 i + y.f2 ∧ y.f1 + dst l0 y.f0 i < x.f1 + dst l0 x.f0 i + x.f2
    · refine ⟨true, hc _ (ev_pos g.1 (ev_pos g.2 (Ev.now _))), hr _ ?_⟩
      by_cases c : x.f1 + dst l0 x.f0 i ≤ y.f1 + dst l0 y.f0 i
      · exact ev_pos (by simp; omega) (Ev.now _)
      · exact ev_neg (by simp; omega) (ev_pos (by simp; omega) (Ev.now _))
    · refine ⟨r, hc _ ?_, hr _ (ev_neg (by simp; omega) (ev_neg (by simp; omega) e2))⟩
      by_cases c : x.f1 + dst l0 x.f0 i < y.f1 + dst l0 y.f0 i + y.f2
      · exact ev_pos c (ev_neg (by omega) e1)
      · exact ev_neg c e1

theorem meet_collide {l0 : List Int} {ts : List S68} (h : LineOk l0 ts) (x y : S68) (hx : okTk l0.length x) (hy : okTk l0.length y) :
    ∃ r, Ev (fun k => medium_meet.f k l0 x.f0 x.f1 x.f2 y.f0 y.f1 y.f2) r ∧ Ev (fun k => patchbayref1_Collide.f k l0 x.f0 x.f1 x.f2 y.f0 y.f1 y.f2) r :=
  meets h x y hx hy l0.length 0 (by omega) (by omega) (by omega)

theorem heards {l0 : List Int} {ts : List S68} (h : LineOk l0 ts) {a t : Int} (ha : 0 ≤ a ∧ a < l0.length) (ht : 0 ≤ t ∧ t ≤ 1000000000) (d : Nat) : ∀ i n : Int, 0 ≤ i → i ≤ ts.length → (ts.length : Int) - i = d → 0 ≤ n → n ≤ i →
    ∃ r, Ev (fun k => medium_Heard.l0 k l0 a t n ts ts.length i) (r, 0) ∧ Ev (fun k => patchbayref1_HeardAt.l0 k l0 a t n ts ts.length i) r := by
  have hm := h.hm
  induction d with
  | zero =>
    intro i n h0 h1 hd n0 n1
    refine ⟨n, ?_, ?_⟩
    · exact Ev.step (fun k => medium_Heard.l0.eq_2 ..) (ev_neg (by omega) (Ev.now _))
    · exact Ev.step (fun k => patchbayref1_HeardAt.l0.eq_2 ..) (ev_neg (by omega) (Ev.now _))
  | succ d ih =>
    intro i n h0 h1 hd n0 n1
    have hlt : i < (ts.length : Int) := by omega
    have hw : wrap64 (i + 1) = i + 1 := w64 (by omega) (by omega)
    have hwn : wrap64 (n + 1) = n + 1 := w64 (by omega) (by omega)
    have hx := h.talks i h0 hlt
    have e1 := ih (i + 1) n (by omega) (by omega) (by omega) n0 (by omega)
    have e2 := ih (i + 1) (n + 1) (by omega) (by omega) (by omega) (by omega) (by omega)
    have hc : ∀ r, Ev (fun k => (medium_begins.f l0 (rd_T68 ts i).f0 (rd_T68 ts i).f1 (rd_T68 ts i).f2 a).bind fun t112 => (if t112 ≤ t then (if t < (wrap64 (t112 + ((rd_T68 ts i).f2))) then (medium_Heard.l0 k l0 a t (n + 1) ts ts.length (i + 1)) else (medium_Heard.l0 k l0 a t n ts ts.length (i + 1))) else (medium_Heard.l0 k l0 a t n ts ts.length (i + 1)))) r → Ev (fun k => medium_Heard.l0 k l0 a t n ts ts.length i) r := by
      intro r hh
      refine Ev.step (fun k => medium_Heard.l0.eq_2 ..) ?_
      rw [hw, hwn]
      exact ev_pos hlt (ev_pos h0 (ev_pos hlt hh))
    have hr : ∀ r, Ev (fun k => (patchbayref1_Present.f l0 (rd_T68 ts i).f0 (rd_T68 ts i).f1 (rd_T68 ts i).f2 a t).bind fun t150 => (if t150 = true then (patchbayref1_HeardAt.l0 k l0 a t (n + 1) ts ts.length (i + 1)) else (patchbayref1_HeardAt.l0 k l0 a t n ts ts.length (i + 1)))) r → Ev (fun k => patchbayref1_HeardAt.l0 k l0 a t n ts ts.length i) r := by
      intro r hh
      refine Ev.step (fun k => patchbayref1_HeardAt.l0.eq_2 ..) ?_
      rw [hw, hwn]
      exact ev_pos hlt (ev_pos h0 (ev_pos hlt hh))
    obtain ⟨⟨xf0, xf1⟩, ⟨xa0, xa1⟩, xl0, xl1⟩ := hx
    have dx := dst_range h xf0 xf1 ha.1 ha.2
    have b1 := begins_some (l := (rd_T68 ts i).f2) h xf0 xf1 ha.1 ha.2 ⟨xa0, xa1⟩
    have p1 := present_some (t := t) h xf0 xf1 ha.1 ha.2 ⟨xa0, xa1⟩ ⟨xl0, xl1⟩ (by omega)
    simp only [b1, p1, Option.bind_some] at hc hr
    rw [w64 (by omega) (by omega)] at hc
    generalize rd_T68 ts i = x at hc hr xf0 xf1 xa0 xa1 xl0 xl1 dx
    by_cases g : x.f1 + dst l0 x.f0 a ≤ t ∧ t < x.f1 + dst l0 x.f0 a + x.f2
    · obtain ⟨r, e3, e4⟩ := e2
      exact ⟨r, hc _ (ev_pos g.1 (ev_pos g.2 e3)), hr _ (ev_pos (by simp; omega) e4)⟩
    · obtain ⟨r, e3, e4⟩ := e1
      refine ⟨r, hc _ ?_, hr _ (ev_neg (by simp; omega) e4)⟩
      by_cases c : x.f1 + dst l0 x.f0 a ≤ t
      · exact ev_pos c (ev_neg (by omega) e3)
      · exact ev_neg c e3
end Go.Proofs.Ytfeddgeihpfjfaa
