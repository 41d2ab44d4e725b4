/- The plain law of FecSays: decoders. -/
import Derived.Test.YtfeddgeihpfjfabFecP2
set_option linter.unusedVariables false
set_option linter.unusedSimpArgs false
namespace Go.Proofs.Ytfeddgeihpfjfab
open Go.RowKit Go.Proofs.YtfeddgeihpfjfabW.PrintWords Go.Proofs.YtfeddgeihpfjfabW.PrintLast Go.Proofs.YtfeddgeihpfjfabW.PrintMore Go.Proofs.Ytfeddgeihpfjfab.JFecSays

/-- What is left of b behind fr words. -/
def X0 (b : ByteArray) (fr : Nat) (x : ByteArray) : Prop := x.size = b.size - 7 * fr ∧ ∀ j : Int, 0 ≤ j → j < x.size → bt x j = bt b (7 * fr + j)
theorem bt_extract (s : ByteArray) (a : Nat) (j : Int) (h0 : 0 ≤ j) (h : j < (s.extract a s.size).size) : bt (s.extract a s.size) j = bt s (a + j) := by
  have hsz : (s.extract a s.size).size = s.size - a := by rw [ByteArray.size_extract, Nat.min_self]
  rw [hsz] at h
  have h1 : j.toNat < (s.extract a s.size).size := by rw [hsz]; omega
  have h2 : ((a : Int) + j).toNat < s.size := by omega
  rw [← bt_at _ j h1, ← bt_at s _ h2]
  congr 2
  have h3 : a + j.toNat < s.size := by omega
  rw [ByteArray.getElem_extract]
  congr 1
  omega
theorem X0.next {b x : ByteArray} {fr m : Nat} (h : X0 b fr x) (hm : 7 * m ≤ x.size) : X0 b (fr + m) (x.extract (7 * m) x.size) := by
  have hsz : (x.extract (7 * m) x.size).size = x.size - 7 * m := by rw [ByteArray.size_extract, Nat.min_self]
  refine ⟨by rw [hsz, h.1]; omega, fun j h0 h1 => ?_⟩
  rw [bt_extract x _ j h0 h1]
  rw [hsz] at h1
  rw [h.2 _ (by omega) (by omega)]
  congr 1; push_cast; omega

/-- The word at place i of a block of m words that begins behind fr words. -/
def wl (b : ByteArray) (fr m i : Nat) : List Int := (List.range 7).map fun j => bt b ((7 * fr + (j * m + i) : Nat) : Int)
theorem wl_len (b : ByteArray) (fr m i : Nat) : (wl b fr m i).length = 7 := by simp [wl]
theorem wl_at (b : ByteArray) (fr m i j : Nat) (h : j < 7) : (wl b fr m i)[j]'(by simp [wl]; exact h) = bt b ((7 * fr + (j * m + i) : Nat) : Int) := by simp [wl]

theorem dec2 (b x : ByteArray) (fr m i : Nat) (hx : X0 b fr x) (him : i < m) (hmx : 7 * m ≤ x.size) (hxs : x.size ≤ 10000) (d : Int) (vals : List Int) (fixed : Int) (r : ByteArray × Int × Int) (q : Nat) : ∀ (t : Nat) (L : List Int), t ≤ 7 → 7 - t = q → L.length = 7 → L.take t = (wl b fr m i).take t →
    Ev (fun k => (fec_fix.f k (wl b fr m i)).bind fun bt157 => (if bt157.2 > 0 then (if vals.length < 17592186044416 then (fec_Decode.l1 k x d (vals ++ [bt157.1]) (wrap64 (fixed + 1)) m m (wrap64 ((i : Int) + 1))) else (none)) else (if vals.length < 17592186044416 then (fec_Decode.l1 k x d (vals ++ [bt157.1]) fixed m m (wrap64 ((i : Int) + 1))) else (none)))) r →
    Ev (fun k => fec_Decode.l2 k x d vals fixed m i L m i 7 t) r := by
  induction q with
  | zero =>
    intro t L ht hq hL hw h
    obtain rfl : t = 7 := by omega
    rw [List.take_of_length_le (by omega), List.take_of_length_le (by rw [wl_len]; omega)] at hw
    subst hw
    exact Ev.step (fun k => fec_Decode.l2.eq_2 ..) (ev_neg (by omega) h)
  | succ q ih =>
    intro t L ht hq hL hw h
    have hp0 : t * m + i < x.size := by
      have : t * m ≤ 6 * m := Nat.mul_le_mul_right _ (by omega)
      omega
    have hc : ((t : Int) * (m : Int)) = ((t * m : Nat) : Int) := by push_cast; rfl
    have hw1 : wrap64 ((t : Int) * (m : Int)) = ((t * m : Nat) : Int) := by rw [hc]; exact w64 (by omega) (by omega)
    have hw2 : wrap64 (((t * m : Nat) : Int) + (i : Int)) = ((t * m + i : Nat) : Int) := by rw [w64 (by omega) (by omega)]; push_cast; omega
    have hw3 : wrap64 ((t : Int) + 1) = ((t + 1 : Nat) : Int) := by rw [w64 (by omega) (by omega)]; push_cast; omega
    have hbx : bt x ((t * m + i : Nat) : Int) = bt b ((7 * fr + (t * m + i) : Nat) : Int) := by rw [hx.2 _ (by omega) (by omega)]; congr 1
    refine Ev.step (fun k => fec_Decode.l2.eq_2 ..) ?_
    rw [hw1, hw2, hw3, hbx]
    clear hw1 hw2 hw3 hbx hc
    refine ev_pos (by omega) (ev_pos (by omega) (ev_pos (by omega) (ev_pos (by omega) (ev_pos (by omega) ?_))))
    rw [Int.toNat_natCast]
    refine ih (t + 1) _ (by omega) (by omega) (by simpa using hL) ?_ h
    rw [List.take_succ_eq_append_getElem (by rw [List.length_set]; omega), List.take_succ_eq_append_getElem (by rw [wl_len]; omega), List.take_set_of_le (by omega), hw, List.getElem_set_self, wl_at b fr m i t (by omega)]

theorem bytes_snoc (s b : ByteArray) (a : Nat) (h : a < b.size) : bytesOf (s ++ b.extract a (a + 1)) = bytesOf s ++ [bt b (a : Int)] ∧ (b.extract a (a + 1)).size = 1 := by
  have hsz : (b.extract a (a + 1)).size = 1 := by rw [ByteArray.size_extract]; omega
  refine ⟨?_, hsz⟩
  have e2 : bytesOf (b.extract a (a + 1)) = [bt b (a : Int)] := by
    apply List.ext_getElem
    · rw [bytesOf_length, hsz]; rfl
    · intro i h1 h2
      have h3 : i = 0 := by simpa using h2
      subst h3
      have e := rd_bytesOf (b.extract a (a + 1)) 0
      have e3 : rd (bytesOf (b.extract a (a + 1))) 0 = (bytesOf (b.extract a (a + 1)))[0] := by
        unfold rd
        rw [List.getD_eq_getElem?_getD]
        simp [List.getElem?_eq_getElem h1]
      rw [← e3, e, ← bt_at _ 0 (by simp; omega), List.getElem_cons_zero, ← bt_at b (a : Int) (by simpa using h)]
      congr 2
      rw [ByteArray.getElem_extract]
      congr 1
  rw [← e2]
  unfold bytesOf
  simp

theorem chain7 (fr p i : Nat) (h1 : fr ≤ 1024) (h2 : p ≤ 8000) (h3 : i ≤ 1024) : wrap64 ((wrap64 ((wrap64 ((wrap64 (7 * (fr : Int))) + (wrap64 (p : Int)))) + ((fr + i : Nat) : Int))) - (fr : Int)) = ((7 * fr + (p + i) : Nat) : Int) := by
  rw [w64 (x := 7 * (fr : Int)) (by omega) (by omega), w64 (x := (p : Int)) (by omega) (by omega), w64 (x := 7 * (fr : Int) + (p : Int)) (by omega) (by omega), w64 (x := 7 * (fr : Int) + (p : Int) + ((fr + i : Nat) : Int)) (by omega) (by omega), w64 (by omega) (by omega)]
  omega

theorem sep1 (b : ByteArray) (fr m i N : Nat) (him : i < m) (hN : fr + m ≤ N) (hb : b.size = 7 * N) (hN2 : N ≤ 1024) (d : Int) (vals : List Int) (fixed : Int) (r : ByteArray × Int × Int) (q : Nat) : ∀ (t : Nat) (s : ByteArray), t ≤ 7 → 7 - t = q → bytesOf s = (wl b fr m i).take t →
    (∀ s7 : ByteArray, bytesOf s7 = wl b fr m i → Ev (fun k => (patchbayref1_Nearest.f k s7).bind fun bt142 => (if vals.length < 17592186044416 then (patchbayref1_Separated.l0 k b d N (wrap64 (fixed + (mn bt142.2 1))) (vals ++ [bt142.1]) N (wrap64 (((fr + i : Nat) : Int) + 1))) else (none))) r) →
    Ev (fun k => patchbayref1_Separated.l1 k b d N fixed vals ((fr + i : Nat) : Int) fr m s N ((fr + i : Nat) : Int) t) r := by
  induction q with
  | zero =>
    intro t s ht hq hs h
    obtain rfl : t = 7 := by omega
    rw [List.take_of_length_le (by rw [wl_len]; omega)] at hs
    exact Ev.step (fun k => patchbayref1_Separated.l1.eq_2 ..) (ev_neg (by omega) (h s hs))
  | succ q ih =>
    intro t s ht hq hs h
    have hssz : s.size = t := by
      rw [← bytesOf_length, hs, List.length_take, wl_len]; omega
    have hp0 : 7 * fr + (t * m + i) < b.size := by
      have : t * m ≤ 6 * m := Nat.mul_le_mul_right _ (by omega)
      omega
    have hw1 : wrap64 ((wrap64 ((wrap64 ((wrap64 (7 * (fr : Int))) + (wrap64 ((t : Int) * (m : Int))))) + ((fr + i : Nat) : Int))) - (fr : Int)) = ((7 * fr + (t * m + i) : Nat) : Int) := by
      have hc : ((t : Int) * (m : Int)) = ((t * m : Nat) : Int) := by push_cast; rfl
      rw [hc]
      have hb1 : t * m ≤ 6 * m := Nat.mul_le_mul_right _ (by omega)
      exact chain7 fr (t * m) i (by omega) (by omega) (by omega)
    generalize ha : 7 * fr + (t * m + i) = a at hw1 hp0
    have HW1 := Lib.hid hw1
    clear hw1
    have hw2 : wrap64 ((a : Int) + 1) = ((a + 1 : Nat) : Int) := by rw [w64 (by omega) (by omega)]; push_cast; omega
    have hw3 : wrap64 ((t : Int) + 1) = ((t + 1 : Nat) : Int) := by rw [w64 (by omega) (by omega)]; push_cast; omega
    obtain ⟨hsn, hs1⟩ := bytes_snoc s b a hp0
    refine Ev.step (fun k => patchbayref1_Separated.l1.eq_2 ..) ?_
    rw [HW1.out, hw2, hw3]
    clear hw2 hw3
    simp only [Int.toNat_natCast]
    refine ev_pos (by omega) (ev_pos (by omega) (ev_pos (by omega) (ev_pos (by omega) (ev_pos (by rw [hs1]; omega) ?_))))
    refine ih (t + 1) _ (by omega) (by omega) ?_ h
    rw [hsn, hs, List.take_succ_eq_append_getElem (by rw [wl_len]; omega), wl_at b fr m i t (by omega), ha]

/-- Both ends. -/
theorem fin3 (vals : List Int) (N : Nat) (hv : vals.length = 2 * N) (hN : N ≤ 512) (fixed : Int) (q : Nat) : ∀ (j : Nat) (y out : List Int), y.length = N → j ≤ N → N - j = q → out.length = j → y.take j = out →
    ∃ r, Ev (fun k => fec_Decode.l3 k vals fixed y N j) r ∧ Ev (fun k => patchbayref1_Separated.l2 k ((2 * N : Nat) : Int) fixed vals out ((2 * j : Nat) : Int)) r := by
  induction q with
  | zero =>
    intro j y out hy hj hq ho hyo
    obtain rfl : j = N := by omega
    rw [List.take_of_length_le (by omega)] at hyo
    subst hyo
    exact ⟨_, Ev.step (fun k => fec_Decode.l3.eq_2 ..) (ev_neg (by omega) (Ev.now _)), Ev.step (fun k => patchbayref1_Separated.l2.eq_2 ..) (ev_neg (by omega) (Ev.now _))⟩
  | succ q ih =>
    intro j y out hy hj hq ho hyo
    have hw1 : wrap64 (2 * (j : Int)) = ((2 * j : Nat) : Int) := by rw [w64 (by omega) (by omega)]; push_cast; omega
    have hw2 : wrap64 (((2 * j : Nat) : Int) + 1) = ((2 * j + 1 : Nat) : Int) := by rw [w64 (by omega) (by omega)]; push_cast; omega
    have hw3 : wrap64 ((j : Int) + 1) = ((j + 1 : Nat) : Int) := by rw [w64 (by omega) (by omega)]; push_cast; omega
    have hw4 : wrap64 (((2 * j : Nat) : Int) + 2) = ((2 * (j + 1) : Nat) : Int) := by rw [w64 (by omega) (by omega)]; push_cast; omega
    obtain ⟨r, e1, e2⟩ := ih (j + 1) (y.set j ((wrap64 ((wrap64 (16 * (rd vals ((2 * j : Nat) : Int)))) + (rd vals ((2 * j + 1 : Nat) : Int)))) % 256)) (out ++ [(wrap64 ((wrap64 (16 * (rd vals ((2 * j : Nat) : Int)))) + (rd vals ((2 * j + 1 : Nat) : Int)))) % 256]) (by simpa using hy) (by omega) (by omega) (by simp [ho]) (by
      rw [List.take_succ_eq_append_getElem (by rw [List.length_set]; omega), List.take_set_of_le (by omega), hyo, List.getElem_set_self])
    refine ⟨r, ?_, ?_⟩
    · refine Ev.step (fun k => fec_Decode.l3.eq_2 ..) ?_
      rw [hw1, hw2, hw3]
      clear hw1 hw2 hw3 hw4
      exact ev_pos (by omega) (ev_pos (by omega) (ev_pos (by omega) (ev_pos (by omega) (ev_pos (by omega) (ev_pos (by omega) (ev_pos (by omega) e1))))))
    · refine Ev.step (fun k => patchbayref1_Separated.l2.eq_2 ..) ?_
      rw [hw2, hw4]
      clear hw1 hw2 hw3 hw4
      exact ev_pos (by omega) (ev_pos (by omega) (ev_pos (by omega) (ev_pos (by omega) (ev_pos (by omega) (ev_pos (by omega) e2)))))

theorem fin0 (b x : ByteArray) (hx : x.size = 0) (d : Int) (vals : List Int) (N : Nat) (hv : vals.length = 2 * N) (hN : N ≤ 512) (fixed : Int) :
    ∃ r, Ev (fun k => fec_Decode.l0 k x d vals fixed) r ∧ Ev (fun k => patchbayref1_Separated.l0 k b d ((2 * N : Nat) : Int) fixed vals ((2 * N : Nat) : Int) ((2 * N : Nat) : Int)) r := by
  obtain ⟨r, e1, e2⟩ := fin3 vals N hv hN fixed N 0 (List.replicate N 0) [] (by simp) (by omega) (by omega) rfl rfl
  refine ⟨r, ?_, ?_⟩
  · have hl : x.toList = [] := by
      have : x.toList.length = 0 := by rw [ByteArray.toList_eq]; simpa using hx
      exact List.eq_nil_of_length_eq_zero this
    have hw : wrap64 ((vals.length : Int) / 2) = (N : Int) := by rw [hv, w64 (by omega) (by omega)]; omega
    refine Ev.step (fun k => fec_Decode.l0.eq_2 ..) (ev_pos hl ?_)
    rw [hw]
    refine ev_pos (by omega) (ev_pos (by omega) ?_)
    rw [Int.toNat_natCast]
    refine ev_bind1 rfl ?_
    rw [List.length_replicate]
    exact e1
  · exact Ev.step (fun k => patchbayref1_Separated.l0.eq_2 ..) (ev_neg (by omega) e2)
end Go.Proofs.Ytfeddgeihpfjfab
