/- The plain law of FecSays: code words, the nearest one. -/
import Derived.Test.YtfeddgeihpfjfabPk
import Derived.Test.YtfeddgeihpfjfabJFecSaysx
set_option linter.unusedVariables false
set_option linter.unusedSimpArgs false
namespace Go.Proofs.Ytfeddgeihpfjfab
open Go.RowKit Go.Proofs.YtfeddgeihpfjfabW.PrintWords Go.Proofs.YtfeddgeihpfjfabW.PrintLast Go.Proofs.YtfeddgeihpfjfabW.PrintMore Go.Proofs.Ytfeddgeihpfjfab.JFecSays

theorem ham_is {n : Int} (h0 : 0 ≤ n) (h1 : n ≤ 15) : Ev (fun k => patchbayref1_Hamming.f k n) (strOfNums (wordL n)) := by
  rcases n16 h0 h1 with h | h | h | h | h | h | h | h | h | h | h | h | h | h | h | h <;> subst h <;> exact Ev.of (fun k => patchbayref1_Hamming.mono _ k) (k := 90) (by kernel_rfl)

theorem wordL_len {n : Int} : (wordL n).length = 7 := by unfold wordL; rw [vst_len, wst_len]
theorem wordL_bits {n : Int} (h0 : 0 ≤ n) (h1 : n ≤ 15) : ∀ x ∈ wordL n, x = 48 ∨ x = 49 := by
  rcases n16 h0 h1 with h | h | h | h | h | h | h | h | h | h | h | h | h | h | h | h <;> subst h <;> decide

/-- How a word differs from a code word: from place i on. -/
def cmpL (c w : List Int) : Nat → Int → Int → Int → Int × Int
  | 0, _, u, a => (u, a)
  | d + 1, i, u, a => if rd c i = rd w i then cmpL c w d (i + 1) u a else cmpL c w d (i + 1) (u + 1) (i + 1)
/-- The nearest code word, from n on. -/
def nearL (w : List Int) : Nat → Int → Int × Int
  | 0, _ => (-1, 0)
  | d + 1, n => if (cmpL (wordL n) w 7 0 0 0).1 < 2 then (n, (cmpL (wordL n) w 7 0 0 0).2) else nearL w d (n + 1)

theorem near1 (s c : ByteArray) (hs : s.size = 7) (hc : c.size = 7) (n : Int) (r : Int × Int) (hn : 0 ≤ n ∧ n ≤ 15) (d : Nat) : ∀ (i u a : Int), 0 ≤ i → i ≤ 7 → 7 - i = d → 0 ≤ u → u ≤ i →
    Ev (fun k => if (cmpL (bytesOf c) (bytesOf s) d i u a).1 < 2 then some (n, (cmpL (bytesOf c) (bytesOf s) d i u a).2) else patchbayref1_Nearest.l0 k s (n + 1)) r →
    Ev (fun k => patchbayref1_Nearest.l1 k s n c u a n i) r := by
  have hwn : wrap64 (n + 1) = n + 1 := w64 (by omega) (by omega)
  induction d with
  | zero =>
    intro i u a h0 h1 hd hu0 hu1 h
    refine Ev.step (fun k => patchbayref1_Nearest.l1.eq_2 ..) (ev_neg (by omega) ?_)
    rw [hwn]
    exact h
  | succ d ih =>
    intro i u a h0 h1 hd hu0 hu1 h
    have hw : wrap64 (i + 1) = i + 1 := w64 (by omega) (by omega)
    have hwu : wrap64 (u + 1) = u + 1 := w64 (by omega) (by omega)
    refine Ev.step (fun k => patchbayref1_Nearest.l1.eq_2 ..) (ev_pos (by omega) (ev_pos h0 (ev_pos (by omega) (ev_pos (by omega) ?_))))
    rw [hw, hwu]
    simp only [cmpL, rd_bytesOf] at h
    by_cases e : bt c i = bt s i
    · rw [if_pos e] at h
      exact ev_pos e (ih (i + 1) u a (by omega) (by omega) (by omega) hu0 (by omega) h)
    · rw [if_neg e] at h
      exact ev_neg e (ih (i + 1) (u + 1) (i + 1) (by omega) (by omega) (by omega) (by omega) (by omega) h)

theorem word_bytes {n : Int} (h0 : 0 ≤ n) (h1 : n ≤ 15) : bytesOf (strOfNums (wordL n)) = wordL n := by
  rcases n16 h0 h1 with h | h | h | h | h | h | h | h | h | h | h | h | h | h | h | h <;> subst h <;> decide +kernel
theorem word_size {n : Int} (h0 : 0 ≤ n) (h1 : n ≤ 15) : (strOfNums (wordL n)).size = 7 := by
  rw [← bytesOf_length, word_bytes h0 h1, wordL_len]

theorem near0 (s : ByteArray) (hs : s.size = 7) (d : Nat) : ∀ n : Int, 0 ≤ n → 16 - n = d → Ev (fun k => patchbayref1_Nearest.l0 k s n) (nearL (bytesOf s) d n) := by
  induction d with
  | zero =>
    intro n h0 hd
    exact Ev.step (fun k => patchbayref1_Nearest.l0.eq_2 ..) (ev_neg (by omega) (Ev.now _))
  | succ d ih =>
    intro n h0 hd
    refine Ev.step (fun k => patchbayref1_Nearest.l0.eq_2 ..) (ev_pos (by omega) (Ev.bind (ham_is h0 (by omega)) ?_))
    refine near1 s _ hs (word_size h0 (by omega)) n _ ⟨h0, by omega⟩ 7 0 0 0 (by omega) (by omega) (by omega) (by omega) (by omega) ?_
    rw [word_bytes h0 (by omega)]
    simp only [nearL]
    by_cases c : (cmpL (wordL n) (bytesOf s) 7 0 0 0).1 < 2
    · rw [if_pos c]; exact ev_pos c (Ev.now _)
    · rw [if_neg c]; exact ev_neg c (ih (n + 1) (by omega) (by omega))
theorem near_is (s : ByteArray) (hs : s.size = 7) : Ev (fun k => patchbayref1_Nearest.f k s) (nearL (bytesOf s) 16 0) := near0 s hs 16 0 (by omega) (by omega)

/-- One word of 128: correction and search agree. -/
def fixOk (w : List Int) : Bool := decide (fec_fix.f 20 w = some (nearL w 16 0)) && decide (0 ≤ (nearL w 16 0).1 ∧ (nearL w 16 0).1 ≤ 15 ∧ 0 ≤ (nearL w 16 0).2 ∧ (nearL w 16 0).2 ≤ 7)
def bitC (b : Bool) : Int := if b then 49 else 48
def allW : List (List Int) := [false, true].flatMap fun a => [false, true].flatMap fun b => [false, true].flatMap fun c => [false, true].flatMap fun d => [false, true].flatMap fun e => [false, true].flatMap fun f => [false, true].map fun g => [bitC a, bitC b, bitC c, bitC d, bitC e, bitC f, bitC g]
theorem allW_ok : allW.all fixOk = true := by decide +kernel
theorem bit_of {x : Int} (h : x = 48 ∨ x = 49) : ∃ b : Bool, x = bitC b := by
  rcases h with rfl | rfl
  · exact ⟨false, rfl⟩
  · exact ⟨true, rfl⟩
theorem fix_is (w : List Int) (hl : w.length = 7) (hb : ∀ x ∈ w, x = 48 ∨ x = 49) : Ev (fun k => fec_fix.f k w) (nearL w 16 0) ∧ 0 ≤ (nearL w 16 0).1 ∧ (nearL w 16 0).1 ≤ 15 ∧ 0 ≤ (nearL w 16 0).2 ∧ (nearL w 16 0).2 ≤ 7 := by
  obtain ⟨x0, x1, x2, x3, x4, x5, x6, rfl⟩ : ∃ x0 x1 x2 x3 x4 x5 x6, w = [x0, x1, x2, x3, x4, x5, x6] := by
    match w, hl with
    | [x0, x1, x2, x3, x4, x5, x6], _ => exact ⟨x0, x1, x2, x3, x4, x5, x6, rfl⟩
  obtain ⟨b0, rfl⟩ := bit_of (hb x0 (by simp))
  obtain ⟨b1, rfl⟩ := bit_of (hb x1 (by simp))
  obtain ⟨b2, rfl⟩ := bit_of (hb x2 (by simp))
  obtain ⟨b3, rfl⟩ := bit_of (hb x3 (by simp))
  obtain ⟨b4, rfl⟩ := bit_of (hb x4 (by simp))
  obtain ⟨b5, rfl⟩ := bit_of (hb x5 (by simp))
  obtain ⟨b6, rfl⟩ := bit_of (hb x6 (by simp))
  have hm : [bitC b0, bitC b1, bitC b2, bitC b3, bitC b4, bitC b5, bitC b6] ∈ allW := by
    unfold allW
    simp only [List.mem_flatMap, List.mem_map, List.mem_cons, List.not_mem_nil, or_false]
    exact ⟨b0, by cases b0 <;> simp, b1, by cases b1 <;> simp, b2, by cases b2 <;> simp, b3, by cases b3 <;> simp, b4, by cases b4 <;> simp, b5, by cases b5 <;> simp, b6, by cases b6 <;> simp, rfl⟩
  have h := List.all_eq_true.1 allW_ok _ hm
  unfold fixOk at h
  rw [Bool.and_eq_true, decide_eq_true_eq, decide_eq_true_eq] at h
  exact ⟨Ev.of (fun k => fec_fix.mono _ k) h.1, h.2⟩

/-- Are these bytes bits: both checks. -/
theorem good_is (s : ByteArray) (hs : s.size ≤ 140737488351232) (d : Nat) : ∀ i : Int, 0 ≤ i → i ≤ s.size → (s.size : Int) - i = d → Ev (fun k => fec_good.l0 k s s.size i) ((s.data.toList.drop i.toNat).all isBitU) := by
  induction d with
  | zero =>
    intro i h0 h1 hd
    refine Ev.step (fun k => fec_good.l0.eq_2 ..) (ev_neg (by omega) (ev_eq (Ev.now _) ?_))
    exact (bits_end s i.toNat (by omega)).symm
  | succ d ih =>
    intro i h0 h1 hd
    have hw : wrap64 (i + 1) = i + 1 := w64 (by omega) (by omega)
    have hlt : i.toNat < s.size := by omega
    have e := ih (i + 1) (by omega) (by omega) (by omega)
    have hi : (i + 1).toNat = i.toNat + 1 := by omega
    rw [hi] at e
    rw [bits_step s i.toNat hlt]
    have hb : bt s i = (s[i.toNat].toNat : Int) := (bt_at s i hlt).symm
    refine Ev.step (fun k => fec_good.l0.eq_2 ..) (ev_pos (by omega) (ev_pos h0 (ev_pos (by omega) ?_)))
    rw [hw, hb]
    by_cases c0 : (s[i.toNat].toNat : Int) = 48
    · have hu : isBitU s[i.toNat] = true := by unfold isBitU; simp [← UInt8.toNat_inj]; omega
      rw [hu, Bool.true_and]
      exact ev_pos c0 e
    · by_cases c1 : (s[i.toNat].toNat : Int) = 49
      · have hu : isBitU s[i.toNat] = true := by unfold isBitU; simp [← UInt8.toNat_inj]; omega
        rw [hu, Bool.true_and]
        exact ev_neg c0 (ev_pos c1 e)
      · have hu : isBitU s[i.toNat] = false := by unfold isBitU; rw [Bool.eq_false_iff]; simp [← UInt8.toNat_inj]; omega
        rw [hu, Bool.false_and]
        exact ev_neg c0 (ev_neg c1 (Ev.now _))
theorem good_f (s : ByteArray) (hs : s.size ≤ 140737488351232) : Ev (fun k => fec_good.f k s) (isBitsB s) := good_is s hs s.size 0 (by omega) (by omega) (by omega)
theorem bits_at (s : ByteArray) (h : isBitsB s = true) (i : Int) (h0 : 0 ≤ i) (h1 : i < s.size) : bt s i = 48 ∨ bt s i = 49 := by
  have hlt : i.toNat < s.size := by omega
  unfold isBitsB at h
  have := List.all_eq_true.1 h (s[i.toNat]) (by
    have : s.data.toList[i.toNat]'(by simpa using hlt) ∈ s.data.toList := List.getElem_mem _
    exact this)
  rw [← bt_at s i hlt]
  unfold isBitU at this
  simp [← UInt8.toNat_inj] at this
  omega
end Go.Proofs.Ytfeddgeihpfjfab
