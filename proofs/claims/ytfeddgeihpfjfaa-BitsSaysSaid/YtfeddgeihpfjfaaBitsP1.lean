/- Plain facts for BitsSays: bytes out of bits. -/
import Derived.Test.YtfeddgeihpfjfaaPk
import Derived.Test.YtfeddgeihpfjfaaJBitsSaysx
set_option linter.unusedVariables false
set_option linter.unusedSimpArgs false
namespace Go.Proofs.Ytfeddgeihpfjfaa
open Go.RowKit Go.Proofs.YtfeddgeihpfjfaaW.PrintWords Go.Proofs.YtfeddgeihpfjfaaW.PrintLast Go.Proofs.YtfeddgeihpfjfaaW.PrintMore Go.Proofs.Ytfeddgeihpfjfaa.JBitsSays

theorem nil_iff (x : ByteArray) : x.toList = [] ↔ x.size = 0 := by
  rw [ByteArray.toList_eq]
  constructor
  · intro h
    have : x.data.toList.length = 0 := by rw [h]; rfl
    simpa using this
  · intro h
    exact List.eq_nil_of_length_eq_zero (by simpa using h)
theorem bgood_is (s : ByteArray) (hs : s.size ≤ 140737488351232) (d : Nat) : ∀ i : Int, 0 ≤ i → i ≤ s.size → (s.size : Int) - i = d → Ev (fun k => bits_good.l0 k s s.size i) ((s.data.toList.drop i.toNat).all isBitU) := by
  induction d with
  | zero =>
    intro i h0 h1 hd
    refine Ev.step (fun k => bits_good.l0.eq_2 ..) (ev_neg (by omega) (ev_eq (Ev.now _) ?_))
    exact (bits_end s i.toNat (by omega)).symm
  | succ d ih =>
    intro i h0 h1 hd
    have hw : wrap64 (i + 1) = i + 1 := w64 (by omega) (by omega)
    have hlt : i.toNat < s.size := by omega
    have e := ih (i + 1) (by omega) (by omega) (by omega)
    have hi : (i + 1).toNat = i.toNat + 1 := by omega
    rw [hi] at e
    rw [bits_step s i.toNat hlt]
    have hb : bt s i = (s[i.toNat].toNat : Int) := (bt_at s i hlt).symm
    refine Ev.step (fun k => bits_good.l0.eq_2 ..) (ev_pos (by omega) (ev_pos h0 (ev_pos (by omega) ?_)))
    rw [hw, hb]
    by_cases c0 : (s[i.toNat].toNat : Int) = 48
    · have hu : isBitU s[i.toNat] = true := by unfold isBitU; simp [← UInt8.toNat_inj]; omega
      rw [hu, Bool.true_and]
      exact ev_pos c0 e
    · by_cases c1 : (s[i.toNat].toNat : Int) = 49
      · have hu : isBitU s[i.toNat] = true := by unfold isBitU; simp [← UInt8.toNat_inj]; omega
        rw [hu, Bool.true_and]
        exact ev_neg c0 (ev_pos c1 e)
      · have hu : isBitU s[i.toNat] = false := by unfold isBitU; rw [Bool.eq_false_iff]; simp [← UInt8.toNat_inj]; omega
        rw [hu, Bool.false_and]
        exact ev_neg c0 (ev_neg c1 (Ev.now _))
theorem bgood_f (s : ByteArray) (hs : s.size ≤ 140737488351232) : Ev (fun k => bits_good.f k s) (isBitsB s) := bgood_is s hs s.size 0 (by omega) (by omega) (by omega)
theorem bits_at (s : ByteArray) (h : isBitsB s = true) (i : Int) (h0 : 0 ≤ i) (h1 : i < s.size) : bt s i = 48 ∨ bt s i = 49 := by
  have hlt : i.toNat < s.size := by omega
  unfold isBitsB at h
  have := List.all_eq_true.1 h (s[i.toNat]) (by
    have : s.data.toList[i.toNat]'(by simpa using hlt) ∈ s.data.toList := List.getElem_mem _
    exact this)
  rw [← bt_at s i hlt]
  unfold isBitU at this
  simp [← UInt8.toNat_inj] at this
  omega

/-- The number of n bits from place a on. -/
def valB (b : ByteArray) (a : Nat) : Nat → Int
  | 0 => 0
  | n + 1 => 2 * valB b a n + (bt b ((a + n : Nat) : Int) - 48)
theorem valB_range (b : ByteArray) (hb : isBitsB b = true) (a n : Nat) (h : a + n ≤ b.size) : 0 ≤ valB b a n ∧ valB b a n < 2 ^ n := by
  induction n with
  | zero => simp [valB]
  | succ n ih =>
    have h1 := ih (by omega)
    have h2 := bits_at b hb ((a + n : Nat) : Int) (by omega) (by omega)
    simp only [valB, Int.pow_succ]
    omega

theorem bt_extract2 (s : ByteArray) (a e : Nat) (j : Int) (h0 : 0 ≤ j) (h : j < (s.extract a e).size) : bt (s.extract a e) j = bt s (a + j) := by
  have hsz : (s.extract a e).size = min e s.size - a := ByteArray.size_extract
  have h1 : j.toNat < (s.extract a e).size := by omega
  rw [hsz] at h
  have h2 : ((a : Int) + j).toNat < s.size := by omega
  rw [← bt_at _ j h1, ← bt_at s _ h2]
  congr 2
  rw [ByteArray.getElem_extract]
  congr 1
  omega

/-- x is the piece of b from a on, of n bits. -/
def Piece (b : ByteArray) (a n : Nat) (x : ByteArray) : Prop := x.size = n ∧ ∀ j : Int, 0 ≤ j → j < n → bt x j = bt b (a + j)
theorem and_bit {c : Int} (h : c = 48 ∨ c = 49) : wrap64 (Go.bits .and .u8 c 1) = c - 48 := by
  rcases h with rfl | rfl <;> decide +kernel
theorem pow_le8 {n : Nat} (h : n ≤ 8) : (2 : Int) ^ n ≤ 256 := by
  obtain h | h | h | h | h | h | h | h | h : n = 0 ∨ n = 1 ∨ n = 2 ∨ n = 3 ∨ n = 4 ∨ n = 5 ∨ n = 6 ∨ n = 7 ∨ n = 8 := by omega
  all_goals (subst h; decide)
theorem pow_le7 {n : Nat} (h : n ≤ 7) : (2 : Int) ^ n ≤ 128 := by
  obtain h | h | h | h | h | h | h | h : n = 0 ∨ n = 1 ∨ n = 2 ∨ n = 3 ∨ n = 4 ∨ n = 5 ∨ n = 6 ∨ n = 7 := by omega
  all_goals (subst h; decide)
theorem num_is (b : ByteArray) (hb : isBitsB b = true) (a : Nat) (n : Nat) : ∀ x : ByteArray, n ≤ 8 → a + n ≤ b.size → Piece b a n x → Ev (fun k => patchbayref1_Num.f k x) (valB b a n) := by
  induction n with
  | zero =>
    intro x h8 ha hx
    refine Ev.step (fun k => patchbayref1_Num.f.eq_2 ..) (ev_pos (by rw [nil_iff]; exact hx.1) (Ev.now _))
  | succ n ih =>
    intro x h8 ha hx
    have hsz := hx.1
    have hw : wrap64 ((x.size : Int) - 1) = (n : Int) := by rw [w64 (by omega) (by omega)]; omega
    have hxe : (x.extract 0 n).size = n := by rw [ByteArray.size_extract]; omega
    have hp : Piece b a n (x.extract 0 n) := ⟨hxe, fun j h0 h1 => by
      rw [bt_extract2 x 0 n j h0 (by omega)]
      rw [show ((0 : Nat) : Int) + j = j by omega]
      exact hx.2 j h0 (by omega)⟩
    have hbit : bt x (n : Int) = bt b ((a + n : Nat) : Int) := by rw [hx.2 n (by omega) (by omega)]; congr 1
    have hb2 := bits_at b hb ((a + n : Nat) : Int) (by omega) (by omega)
    have hr := valB_range b hb a n (by omega)
    have h256 : (2 : Int) ^ n ≤ 256 := pow_le8 (by omega)
    refine Ev.step (fun k => patchbayref1_Num.f.eq_2 ..) (ev_neg (by rw [nil_iff]; omega) ?_)
    rw [hw]
    clear hw
    refine ev_pos (by omega) (ev_pos (by omega) ?_)
    rw [Int.toNat_natCast]
    refine Ev.bind (ih _ (by omega) (by omega) hp) (ev_pos (by omega) (ev_eq (Ev.now _) ?_))
    rw [hbit, and_bit hb2]
    have e1 : wrap64 (2 * valB b a n) = 2 * valB b a n := w64 (by omega) (by omega)
    rw [e1]
    show wrap64 (2 * valB b a n + (bt b ((a + n : Nat) : Int) - 48)) = _
    exact w64 (by omega) (by omega)

theorem or_bit (v : Nat) (h : v < 128) (c : Int) (hc : c = 48 ∨ c = 49) : Go.bits .or .u8 (((v : Int) * 2) % 256) ((c - 48) % 256) = 2 * (v : Int) + (c - 48) := by
  have h0 : ∀ v : Fin 128, Go.bits .or .u8 (((v.val : Int) * 2) % 256) ((48 - 48) % 256) = 2 * (v.val : Int) + (48 - 48) := by decide +kernel
  have h1 : ∀ v : Fin 128, Go.bits .or .u8 (((v.val : Int) * 2) % 256) ((49 - 48) % 256) = 2 * (v.val : Int) + (49 - 48) := by decide +kernel
  rcases hc with rfl | rfl
  · exact h0 ⟨v, h⟩
  · exact h1 ⟨v, h⟩

/-- Eight rounds of Bytes. -/
theorem bytes8 (b : ByteArray) (hb : isBitsB b = true) (hs : b.size ≤ 4000) (c : Nat) (hc : 8 * c + 8 ≤ b.size) (r : ByteArray × Int) (q : Nat) : ∀ (j : Nat) (y : List Int), j ≤ 8 → 8 - j = q → c < y.length → y.getD c 0 = valB b (8 * c) j →
    Ev (fun k => bits_Bytes.l0 k b (y.set c (valB b (8 * c) 8)) b.size ((8 * (c + 1) : Nat) : Int)) r → Ev (fun k => bits_Bytes.l0 k b y b.size ((8 * c + j : Nat) : Int)) r := by
  induction q with
  | zero =>
    intro j y hj hq hy hv h
    obtain rfl : j = 8 := by omega
    have e : y.set c (valB b (8 * c) 8) = y := by
      rw [← hv]
      apply List.ext_getElem?
      intro i
      rw [List.getElem?_set]
      split
      · rename_i e; subst e; simp [hy, List.getD_eq_getElem?_getD]
      · rfl
    rw [e] at h
    exact h
  | succ q ih =>
    intro j y hj hq hy hv h
    have hr := valB_range b hb (8 * c) j (by omega)
    have h128 : (2 : Int) ^ j ≤ 128 := pow_le7 (by omega)
    have hb2 := bits_at b hb ((8 * c + j : Nat) : Int) (by omega) (by omega)
    have HD : Hid (wrap64 (Int.tdiv ((8 * c + j : Nat) : Int) 8) = (c : Int)) := by
      show wrap64 (Int.tdiv ((8 * c + j : Nat) : Int) 8) = (c : Int)
      rw [Int.tdiv_eq_ediv_of_nonneg (by omega), w64 (by omega) (by omega)]; omega
    have HW : Hid (wrap64 (((8 * c + j : Nat) : Int) + 1) = ((8 * c + (j + 1) : Nat) : Int)) := by
      show wrap64 (((8 * c + j : Nat) : Int) + 1) = ((8 * c + (j + 1) : Nat) : Int)
      rw [w64 (by omega) (by omega)]; omega
    have hrd : rd y (c : Int) = valB b (8 * c) j := by unfold rd; rw [Int.toNat_natCast]; exact hv
    obtain ⟨v, hvn⟩ := Int.eq_ofNat_of_zero_le hr.1
    have hor := or_bit v (by omega) _ hb2
    have HOR : Hid (Go.bits .or .u8 (((valB b (8 * c) j) * 2) % 256) ((bt b ((8 * c + j : Nat) : Int) - 48) % 256) = valB b (8 * c) (j + 1)) := by
      show _ = _
      rw [hvn, hor]
      simp only [valB]
      rw [hvn]
    clear hor hvn
    refine Ev.step (fun k => bits_Bytes.l0.eq_2 ..) ?_
    rw [HD.out, HW.out, hrd, HOR.out]
    refine ev_pos (by omega) (ev_pos (by omega) (ev_pos (by omega) (ev_pos (by omega) (ev_pos (by omega) ?_))))
    rw [Int.toNat_natCast]
    refine ih (j + 1) _ (by omega) (by omega) (by simpa using hy) ?_ ?_
    · rw [List.getD_eq_getElem?_getD, List.getElem?_set_self (by omega)]; rfl
    · rw [List.set_set]; exact h

/-- Byte behind byte. -/
theorem bytesText (b : ByteArray) (hb : isBitsB b = true) (n : Nat) (hn : b.size = 8 * n) (hs : b.size ≤ 4000) (q : Nat) : ∀ (c : Nat) (y out : List Int) (x : ByteArray), c ≤ n → n - c = q → y.length = n → (∀ i, c ≤ i → i < n → y.getD i 0 = 0) → y.take c = out → Piece b (8 * c) (8 * (n - c)) x →
    ∃ r, Ev (fun k => bits_Bytes.l0 k b y b.size ((8 * c : Nat) : Int)) r ∧ Ev (fun k => patchbayref1_Text.l0 k x out) r := by
  induction q with
  | zero =>
    intro c y out x hc hq hy hz ho hx
    obtain rfl : c = n := by omega
    rw [List.take_of_length_le (by omega)] at ho
    subst ho
    exact ⟨_, Ev.step (fun k => bits_Bytes.l0.eq_2 ..) (ev_neg (by omega) (Ev.now _)), Ev.step (fun k => patchbayref1_Text.l0.eq_2 ..) (ev_pos (by rw [nil_iff, hx.1]; omega) (Ev.now _))⟩
  | succ q ih =>
    intro c y out x hc hq hy hz ho hx
    have hsz := hx.1
    have hr := valB_range b hb (8 * c) 8 (by omega)
    have hx8 : Piece b (8 * c) 8 (x.extract 0 8) := ⟨by rw [ByteArray.size_extract]; omega, fun j h0 h1 => by
      rw [bt_extract2 x 0 8 j h0 (by rw [ByteArray.size_extract]; omega), show ((0 : Nat) : Int) + j = j by omega]
      exact hx.2 j h0 (by omega)⟩
    have hxr : Piece b (8 * (c + 1)) (8 * (n - (c + 1))) (x.extract 8 x.size) := ⟨by rw [ByteArray.size_extract]; omega, fun j h0 h1 => by
      rw [bt_extract2 x 8 x.size j h0 (by rw [ByteArray.size_extract]; omega), hx.2 _ (by omega) (by omega)]
      congr 1; push_cast; omega⟩
    have hset : (y.set c (valB b (8 * c) 8)).take (c + 1) = out ++ [valB b (8 * c) 8] := by
      rw [List.take_succ_eq_append_getElem (by rw [List.length_set]; omega), List.take_set_of_le (by omega), ho, List.getElem_set_self]
    obtain ⟨r, e1, e2⟩ := ih (c + 1) (y.set c (valB b (8 * c) 8)) (out ++ [valB b (8 * c) 8]) (x.extract 8 x.size) (by omega) (by omega) (by simpa using hy) (fun i h1 h2 => by
      rw [List.getD_eq_getElem?_getD, List.getElem?_set_ne (by omega), ← List.getD_eq_getElem?_getD]
      exact hz i (by omega) h2) hset hxr
    have hol : out.length = c := by rw [← ho, List.length_take]; omega
    refine ⟨r, ?_, ?_⟩
    · have h0 : ((8 * c : Nat) : Int) = ((8 * c + 0 : Nat) : Int) := rfl
      rw [h0]
      exact bytes8 b hb hs c (by omega) r 8 0 y (by omega) (by omega) (by omega) (hz c (by omega) (by omega)) e1
    · refine Ev.step (fun k => patchbayref1_Text.l0.eq_2 ..) (ev_neg (by rw [nil_iff]; omega) (ev_pos (by omega) (ev_pos (by omega) ?_)))
      refine Ev.bind (num_is b hb (8 * c) 8 _ (by omega) (by omega) hx8) (ev_pos (by omega) ?_)
      have e : valB b (8 * c) 8 % 256 = valB b (8 * c) 8 := by
        have : (2 : Int) ^ 8 = 256 := by decide
        omega
      rw [e]
      exact e2

theorem and7 (n : Nat) (h : n ≤ 400) : Go.bits .and .i64 (n : Int) 7 = ((n % 8 : Nat) : Int) := by
  have : ∀ c : Fin 401, Go.bits .and .i64 (c.val : Int) 7 = ((c.val % 8 : Nat) : Int) := by decide +kernel
  exact this ⟨n, by omega⟩

theorem bytes_both (b : ByteArray) (hs : b.size ≤ 400) : ∃ r, Ev (fun k => bits_Bytes.f k b) r ∧ Ev (fun k => patchbayref1_Text.f k b) r := by
  unfold bits_Bytes.f patchbayref1_Text.f
  have hg := bgood_f b (by omega)
  have hi : patchbayref1_IsBits.f b = some (isBitsB b) := rfl
  by_cases hb : isBitsB b = true
  · rw [hb] at hg hi
    have h7 := and7 b.size hs
    by_cases c : (b.size : Int) % 8 = 0
    · obtain ⟨n, hn⟩ : ∃ n : Nat, b.size = 8 * n := ⟨b.size / 8, by omega⟩
      have hw : wrap64 ((b.size : Int) / 8) = (n : Int) := by rw [w64 (by omega) (by omega)]; omega
      have HW := Lib.hid hw
      have H7 := Lib.hid h7
      clear hw h7
      obtain ⟨r, e1, e2⟩ := bytesText b hb n hn (by omega) n 0 (List.replicate n 0) [] b (by omega) (by omega) (by simp) (fun i _ h => by simp [List.getD_eq_getElem?_getD, h]) (by simp) ⟨by omega, fun j _ _ => by congr 1; omega⟩
      refine ⟨r, Ev.bind hg (ev_pos rfl (ev_pos c ?_)), ev_bind1 hi (ev_pos rfl (ev_neg (by rw [H7.out]; omega) e2))⟩
      rw [HW.out]
      refine ev_pos (by omega) (ev_pos (by omega) ?_)
      rw [Int.toNat_natCast]
      exact e1
    · exact ⟨_, Ev.bind hg (ev_pos rfl (ev_neg c (Ev.now _))), ev_bind1 hi (ev_pos rfl (ev_pos (by rw [h7]; omega) (Ev.now _)))⟩
  · have hb' : isBitsB b = false := by simpa using hb
    rw [hb'] at hg hi
    exact ⟨_, Ev.bind hg (ev_neg (by simp) (Ev.now _)), ev_bind1 hi (ev_neg (by simp) (Ev.now _))⟩
end Go.Proofs.Ytfeddgeihpfjfaa
