/- Plain facts for BitsSays: Xor, Flip, Weight. -/
import Derived.Test.YtfeddgeihpfjfaaBitsP1
set_option linter.unusedVariables false
set_option linter.unusedSimpArgs false
namespace Go.Proofs.Ytfeddgeihpfjfaa
open Go.RowKit Go.Proofs.YtfeddgeihpfjfaaW.PrintWords Go.Proofs.YtfeddgeihpfjfaaW.PrintLast Go.Proofs.YtfeddgeihpfjfaaW.PrintMore Go.Proofs.Ytfeddgeihpfjfaa.JBitsSays

theorem str_bytes (s : ByteArray) : strOfNums (bytesOf s) = s := by
  unfold strOfNums bytesOf
  rw [List.map_map]
  have : ((fun n : Int => UInt8.ofNat n.toNat) ∘ fun b : UInt8 => (b.toNat : Int)) = id := by
    funext b; simp
  rw [this, List.map_id]
theorem bytes_append (s t : ByteArray) : bytesOf (s ++ t) = bytesOf s ++ bytesOf t := by
  unfold bytesOf
  simp
theorem bytes_one (b : ByteArray) (a : Nat) (h : a < b.size) : bytesOf (b.extract a (a + 1)) = [bt b (a : Int)] ∧ (b.extract a (a + 1)).size = 1 := by
  have hsz : (b.extract a (a + 1)).size = 1 := by rw [ByteArray.size_extract]; omega
  refine ⟨?_, hsz⟩
  apply List.ext_getElem
  · rw [bytesOf_length, hsz]; rfl
  · intro i h1 h2
    have h3 : i = 0 := by simpa using h2
    subst h3
    have e := rd_bytesOf (b.extract a (a + 1)) 0
    have e3 : rd (bytesOf (b.extract a (a + 1))) 0 = (bytesOf (b.extract a (a + 1)))[0] := by
      unfold rd
      rw [List.getD_eq_getElem?_getD]
      simp [List.getElem?_eq_getElem h1]
    rw [← e3, e, ← bt_at _ 0 (by simp; omega), List.getElem_cons_zero, ← bt_at b (a : Int) (by simpa using h)]
    congr 2
    rw [ByteArray.getElem_extract]
    congr 1
theorem bytes_get (b : ByteArray) (i : Nat) (h : i < b.size) : (bytesOf b)[i]'(by rw [bytesOf_length]; exact h) = bt b (i : Int) := by
  have e := rd_bytesOf b (i : Int)
  rw [← e]
  unfold rd
  rw [Int.toNat_natCast, List.getD_eq_getElem?_getD, List.getElem?_eq_getElem (by rw [bytesOf_length]; exact h)]
  rfl

theorem xor_bit {c d : Int} (hc : c = 48 ∨ c = 49) (hd : d = 48 ∨ d = 49) : (48 + Go.bits .and .u8 (Go.bits .xor .u8 c d) 1) % 256 = if c = d then 48 else 49 := by
  rcases hc with rfl | rfl <;> rcases hd with rfl | rfl <;> decide +kernel

theorem xor_loop (a b : ByteArray) (ha : isBitsB a = true) (hb : isBitsB b = true) (hl : a.size = b.size) (hs : a.size ≤ 4000) (q : Nat) : ∀ (i : Nat) (y : List Int) (s : ByteArray), i ≤ a.size → a.size - i = q → y.length = a.size → y.take i = bytesOf s →
    ∃ r, Ev (fun k => bits_Xor.l0 k a b y a.size i) r ∧ Ev (fun k => patchbayref1_Xor.l0 k a b s a.size i) r := by
  induction q with
  | zero =>
    intro i y s hi hq hy ht
    have hia : i = a.size := by omega
    subst hia
    rw [List.take_of_length_le (by omega)] at ht
    subst ht
    refine ⟨(s, 0), Ev.step (fun k => bits_Xor.l0.eq_2 ..) (ev_neg (by omega) (ev_eq (Ev.now _) (by rw [str_bytes]))), Ev.step (fun k => patchbayref1_Xor.l0.eq_2 ..) (ev_neg (by omega) (Ev.now _))⟩
  | succ q ih =>
    intro i y s hi hq hy ht
    have hsl : s.size = i := by rw [← bytesOf_length, ← ht, List.length_take]; omega
    have h1 := bits_at a ha (i : Int) (by omega) (by omega)
    have h2 := bits_at b hb (i : Int) (by omega) (by omega)
    have HX := Lib.hid (xor_bit h1 h2)
    have HW : Hid (wrap64 ((i : Int) + 1) = ((i + 1 : Nat) : Int)) := by
      show wrap64 ((i : Int) + 1) = ((i + 1 : Nat) : Int)
      rw [w64 (by omega) (by omega)]; omega
    have hstep : ∀ v : Int, ∀ e : ByteArray, bytesOf e = [v] → (y.set i v).take (i + 1) = bytesOf (s ++ e) := by
      intro v e he
      rw [List.take_succ_eq_append_getElem (by rw [List.length_set]; omega), List.take_set_of_le (by omega), ht, List.getElem_set_self, bytes_append, he]
    by_cases c : bt a (i : Int) = bt b (i : Int)
    · obtain ⟨r, e1, e2⟩ := ih (i + 1) (y.set i 48) (s ++ (⟨#[48]⟩ : ByteArray)) (by omega) (by omega) (by simpa using hy) (hstep 48 _ rfl)
      refine ⟨r, ?_, ?_⟩
      · refine Ev.step (fun k => bits_Xor.l0.eq_2 ..) ?_
        rw [HX.out, if_pos c, HW.out]
        refine ev_pos (by omega) (ev_pos (by omega) (ev_pos (by omega) (ev_pos (by omega) (ev_pos (by omega) ?_))))
        rw [Int.toNat_natCast]; exact e1
      · refine Ev.step (fun k => patchbayref1_Xor.l0.eq_2 ..) ?_
        rw [HW.out]
        exact ev_pos (by omega) (ev_pos (by omega) (ev_pos (by omega) (ev_pos (by omega) (ev_pos c (ev_pos (by omega) e2)))))
    · obtain ⟨r, e1, e2⟩ := ih (i + 1) (y.set i 49) (s ++ (⟨#[49]⟩ : ByteArray)) (by omega) (by omega) (by simpa using hy) (hstep 49 _ rfl)
      refine ⟨r, ?_, ?_⟩
      · refine Ev.step (fun k => bits_Xor.l0.eq_2 ..) ?_
        rw [HX.out, if_neg c, HW.out]
        refine ev_pos (by omega) (ev_pos (by omega) (ev_pos (by omega) (ev_pos (by omega) (ev_pos (by omega) ?_))))
        rw [Int.toNat_natCast]; exact e1
      · refine Ev.step (fun k => patchbayref1_Xor.l0.eq_2 ..) ?_
        rw [HW.out]
        exact ev_pos (by omega) (ev_pos (by omega) (ev_pos (by omega) (ev_pos (by omega) (ev_neg c (ev_pos (by omega) e2)))))

theorem isBits_append (a b : ByteArray) : isBitsB (a ++ b) = (isBitsB a && isBitsB b) := by
  unfold isBitsB
  simp

theorem xor_both (a b : ByteArray) (hs : a.size ≤ 4000) (hs2 : b.size ≤ 4000) : ∃ r, Ev (fun k => bits_Xor.f k a b) r ∧ Ev (fun k => patchbayref1_Xor.f k a b) r := by
  unfold bits_Xor.f patchbayref1_Xor.f
  have hga := bgood_f a (by omega)
  have hgb := bgood_f b (by omega)
  have hi : patchbayref1_IsBits.f (a ++ b) = some (isBitsB a && isBitsB b) := by unfold patchbayref1_IsBits.f; rw [isBits_append]
  by_cases ha : isBitsB a = true
  · by_cases hb : isBitsB b = true
    · rw [ha] at hga hi
      rw [hb] at hgb hi
      by_cases c : (a.size : Int) = (b.size : Int)
      · obtain ⟨r, e1, e2⟩ := xor_loop a b ha hb (by omega) hs a.size 0 (List.replicate a.size 0) ⟨#[]⟩ (by omega) (by omega) (by simp) rfl
        refine ⟨r, Ev.bind hga (ev_pos rfl (Ev.bind hgb (Ev.step (fun k => bits_Xor.j0.eq_2 ..) (ev_neg (by simp) (ev_pos c (ev_pos (by omega) (ev_pos (by omega) ?_))))))), ev_pos (by omega) (ev_bind1 hi (ev_pos rfl (ev_pos c e2)))⟩
        rw [Int.toNat_natCast]; exact e1
      · exact ⟨_, Ev.bind hga (ev_pos rfl (Ev.bind hgb (Ev.step (fun k => bits_Xor.j0.eq_2 ..) (ev_neg (by simp) (ev_neg c (Ev.now _)))))), ev_pos (by omega) (ev_bind1 hi (ev_pos rfl (ev_neg c (Ev.now _))))⟩
    · have hb' : isBitsB b = false := by simpa using hb
      rw [ha] at hga
      rw [hb'] at hgb
      rw [hb', Bool.and_false] at hi
      exact ⟨_, Ev.bind hga (ev_pos rfl (Ev.bind hgb (Ev.step (fun k => bits_Xor.j0.eq_2 ..) (ev_pos (by simp) (Ev.now _))))), ev_pos (by omega) (ev_bind1 hi (ev_neg (by simp) (Ev.now _)))⟩
  · have ha' : isBitsB a = false := by simpa using ha
    rw [ha'] at hga hi
    rw [Bool.false_and] at hi
    exact ⟨_, Ev.bind hga (ev_neg (by simp) (Ev.step (fun k => bits_Xor.j0.eq_2 ..) (ev_pos rfl (Ev.now _)))), ev_pos (by omega) (ev_bind1 hi (ev_neg (by simp) (Ev.now _)))⟩

/-- The bits behind a flip. -/
def flipL (b : ByteArray) (at_ : Int) : List Int := if 0 ≤ at_ ∧ at_ < b.size then (if bt b at_ = 48 then (bytesOf b).set at_.toNat 49 else if bt b at_ = 49 then (bytesOf b).set at_.toNat 48 else bytesOf b) else bytesOf b
theorem flipL_len (b : ByteArray) (at_ : Int) : (flipL b at_).length = b.size := by
  unfold flipL
  split
  · split
    · simp [bytesOf_length]
    · split <;> simp [bytesOf_length]
  · exact bytesOf_length b
/-- Place i of it. -/
theorem flipL_at (b : ByteArray) (at_ : Int) (i : Nat) (h : i < b.size) : (flipL b at_)[i]'(by rw [flipL_len]; exact h) = if (i : Int) = at_ then (if bt b i = 48 then 49 else if bt b i = 49 then 48 else bt b i) else bt b i := by
  have hg := bytes_get b i h
  by_cases e : (i : Int) = at_
  · subst e
    rw [if_pos rfl]
    have hc : (0 : Int) ≤ i ∧ (i : Int) < b.size := ⟨by omega, by omega⟩
    unfold flipL
    simp only [if_pos hc, Int.toNat_natCast]
    by_cases c0 : bt b (i : Int) = 48
    · simp only [if_pos c0, List.getElem_set_self]
    · by_cases c1 : bt b (i : Int) = 49
      · simp only [if_neg c0, if_pos c1, List.getElem_set_self]
      · simp only [if_neg c0, if_neg c1]; exact hg
  · rw [if_neg e]
    unfold flipL
    by_cases hc : 0 ≤ at_ ∧ at_ < (b.size : Int)
    · have hne : at_.toNat ≠ i := by omega
      simp only [if_pos hc]
      by_cases c0 : bt b at_ = 48
      · simp only [if_pos c0, List.getElem_set_ne hne]; exact hg
      · by_cases c1 : bt b at_ = 49
        · simp only [if_neg c0, if_pos c1, List.getElem_set_ne hne]; exact hg
        · simp only [if_neg c0, if_neg c1]; exact hg
    · simp only [if_neg hc]; exact hg

theorem one_is (e : ByteArray) (v : Int) (h : bytesOf e = [v]) (n : Nat) (hn : n < 256) : e.toList = [UInt8.ofNat n] ↔ v = n := by
  rw [ByteArray.toList_eq]
  unfold bytesOf at h
  match hd : e.data.toList, h with
  | [c], h =>
    simp at h
    subst h
    constructor
    · intro h2
      injection h2 with h2 _
      subst h2
      simp; omega
    · intro h2
      have h3 : c.toNat = n := by omega
      rw [← h3]; simp

theorem flip_loop (b : ByteArray) (at_ : Int) (hs : b.size ≤ 4000) (q : Nat) : ∀ (i : Nat) (s : ByteArray), i ≤ b.size → b.size - i = q → bytesOf s = (flipL b at_).take i →
    ∃ s', Ev (fun k => patchbayref1_Flip.l0 k b at_ s b.size i) s' ∧ bytesOf s' = flipL b at_ := by
  induction q with
  | zero =>
    intro i s hi hq ht
    refine ⟨s, Ev.step (fun k => patchbayref1_Flip.l0.eq_2 ..) (ev_neg (by omega) (Ev.now _)), ?_⟩
    rw [ht, List.take_of_length_le (by rw [flipL_len]; omega)]
  | succ q ih =>
    intro i s hi hq ht
    have hlt : i < b.size := by omega
    have hsl : s.size = i := by rw [← bytesOf_length, ht, List.length_take, flipL_len]; omega
    obtain ⟨hone, hosz⟩ := bytes_one b i hlt
    have hfl := flipL_at b at_ i hlt
    have HW : Hid (wrap64 ((i : Int) + 1) = ((i + 1 : Nat) : Int)) := by
      show wrap64 ((i : Int) + 1) = ((i + 1 : Nat) : Int)
      rw [w64 (by omega) (by omega)]; omega
    have hstep : ∀ v : Int, ∀ e : ByteArray, bytesOf e = [v] → (flipL b at_)[i]'(by rw [flipL_len]; exact hlt) = v → bytesOf (s ++ e) = (flipL b at_).take (i + 1) := by
      intro v e he hv
      rw [bytes_append, ht, he, List.take_succ_eq_append_getElem (by rw [flipL_len]; exact hlt), hv]
    have h48 := one_is (b.extract i (i + 1)) _ hone 48 (by omega)
    have h49 := one_is (b.extract i (i + 1)) _ hone 49 (by omega)
    have HOS := Lib.hid hosz
    clear hosz
    suffices h : ∃ e : ByteArray, bytesOf (s ++ e) = (flipL b at_).take (i + 1) ∧ ∀ r, Ev (fun k => patchbayref1_Flip.l0 k b at_ (s ++ e) b.size ((i + 1 : Nat) : Int)) r → Ev (fun k => patchbayref1_Flip.l0 k b at_ s b.size i) r by
      obtain ⟨e, he, hr⟩ := h
      obtain ⟨s', e1, e2⟩ := ih (i + 1) (s ++ e) (by omega) (by omega) he
      exact ⟨s', hr _ e1, e2⟩
    by_cases c : (i : Int) = at_
    · rw [if_pos c] at hfl
      by_cases c0 : bt b (i : Int) = 48
      · rw [if_pos c0] at hfl
        refine ⟨⟨#[49]⟩, hstep 49 _ rfl hfl, fun r h => ?_⟩
        refine Ev.step (fun k => patchbayref1_Flip.l0.eq_2 ..) ?_
        rw [HW.out]
        simp only [Int.toNat_natCast]
        exact ev_pos (by omega) (ev_pos (by omega) (ev_pos (by omega) (ev_pos (by omega) (ev_pos c (ev_pos (h48.2 c0) (ev_pos (by omega) h))))))
      · rw [if_neg c0] at hfl
        by_cases c1 : bt b (i : Int) = 49
        · rw [if_pos c1] at hfl
          refine ⟨⟨#[48]⟩, hstep 48 _ rfl hfl, fun r h => ?_⟩
          refine Ev.step (fun k => patchbayref1_Flip.l0.eq_2 ..) ?_
          rw [HW.out]
          simp only [Int.toNat_natCast]
          exact ev_pos (by omega) (ev_pos (by omega) (ev_pos (by omega) (ev_pos (by omega) (ev_pos c (ev_neg (fun h => c0 (h48.1 h)) (ev_pos (h49.2 c1) (ev_pos (by omega) h)))))))
        · rw [if_neg c1] at hfl
          refine ⟨b.extract i (i + 1), hstep _ _ hone hfl, fun r h => ?_⟩
          refine Ev.step (fun k => patchbayref1_Flip.l0.eq_2 ..) ?_
          rw [HW.out]
          simp only [Int.toNat_natCast]
          exact ev_pos (by omega) (ev_pos (by omega) (ev_pos (by omega) (ev_pos (by omega) (ev_pos c (ev_neg (fun h => c0 (h48.1 h)) (ev_neg (fun h => c1 (h49.1 h)) (ev_pos (by rw [HOS.out]; omega) h)))))))
    · rw [if_neg c] at hfl
      refine ⟨b.extract i (i + 1), hstep _ _ hone hfl, fun r h => ?_⟩
      refine Ev.step (fun k => patchbayref1_Flip.l0.eq_2 ..) ?_
      rw [HW.out]
      simp only [Int.toNat_natCast]
      exact ev_pos (by omega) (ev_pos (by omega) (ev_pos (by omega) (ev_pos (by omega) (ev_neg c (ev_pos (by rw [HOS.out]; omega) h)))))

theorem bytes_take (b : ByteArray) (n : Nat) (h : n ≤ b.size) : bytesOf (b.extract 0 n) = (bytesOf b).take n := by
  unfold bytesOf
  rw [ByteArray.data_extract, Array.toList_extract, List.extract_eq_take_drop, List.drop_zero, Nat.sub_zero, List.map_take]
theorem bytes_drop (b : ByteArray) (n : Nat) : bytesOf (b.extract n b.size) = (bytesOf b).drop n := by
  unfold bytesOf
  have h : b.size = b.data.toList.length := by simp
  rw [ByteArray.data_extract, Array.toList_extract, List.extract_eq_take_drop, List.take_of_length_le (by rw [List.length_drop]; omega), List.map_drop]

theorem flip_both (b : ByteArray) (at_ : Int) (hs : b.size ≤ 4000) : ∃ r, bits_Flip.f b at_ = some r ∧ Ev (fun k => patchbayref1_Flip.f k b at_) r := by
  obtain ⟨s', e1, e2⟩ := flip_loop b at_ hs b.size 0 ⟨#[]⟩ (by omega) (by omega) (by simp [bytesOf])
  refine ⟨s', ?_, e1⟩
  have hs' : s' = strOfNums (flipL b at_) := by rw [← e2, str_bytes]
  subst hs'
  unfold bits_Flip.f
  by_cases c0 : at_ < 0
  · rw [if_pos c0]
    have : flipL b at_ = bytesOf b := by unfold flipL; rw [if_neg (by omega)]
    rw [this, str_bytes]
  rw [if_neg c0]
  by_cases c1 : at_ ≥ (b.size : Int)
  · rw [if_pos c1]
    have : flipL b at_ = bytesOf b := by unfold flipL; rw [if_neg (by omega)]
    rw [this, str_bytes]
  rw [if_neg c1, if_pos (by omega), if_pos (by omega)]
  obtain ⟨n, rfl⟩ := Int.eq_ofNat_of_zero_le (show 0 ≤ at_ by omega)
  have hn : n < b.size := by omega
  have hc : (0 : Int) ≤ n ∧ (n : Int) < b.size := ⟨by omega, by omega⟩
  have hw : wrap64 ((n : Int) + 1) = ((n + 1 : Nat) : Int) := by rw [w64 (by omega) (by omega)]; omega
  have HW := Lib.hid hw
  clear hw
  have h0 : (b.extract 0 n).size = n := by rw [ByteArray.size_extract]; omega
  have h2 : (b.extract (n + 1) b.size).size = b.size - (n + 1) := by rw [ByteArray.size_extract]; omega
  have key : ∀ v : Int, 0 ≤ v → v < 256 → strOfNums ((bytesOf b).set n v) = ((b.extract 0 n) ++ (strOfNums [v])) ++ (b.extract (n + 1) b.size) := by
    intro v v0 v1
    have e : (bytesOf b).set n v = bytesOf (((b.extract 0 n) ++ (strOfNums [v])) ++ (b.extract (n + 1) b.size)) := by
      rw [bytes_append, bytes_append, bytes_take b n (by omega), bytes_drop]
      have e1 : bytesOf (strOfNums [v]) = [v] := by
        unfold bytesOf strOfNums
        simp
        omega
      rw [e1, List.set_eq_take_append_cons_drop, if_pos (by rw [bytesOf_length]; exact hn)]
      simp
    rw [e, str_bytes]
  have hsz1 : ∀ v, (strOfNums [v]).size = 1 := fun v => strOfNums_size [v]
  unfold flipL
  rw [if_pos hc]
  by_cases c2 : bt b (n : Int) = 48
  · have hx : Go.bits .xor .u8 (bt b (n : Int)) 1 = 49 := by rw [c2]; decide +kernel
    rw [if_pos c2, if_pos c2, if_pos (by omega), hx]
    simp only [Option.bind_some, Int.toNat_natCast, HW.out]
    have g1 := hsz1 49
    rw [if_pos (by rw [h0, g1]; omega), if_pos (by omega), if_pos (by omega), if_pos (by rw [ByteArray.size_append, h0, g1, h2]; omega), key 49 (by omega) (by omega)]
  · rw [if_neg c2, if_neg c2]
    by_cases c3 : bt b (n : Int) = 49
    · have hx : Go.bits .xor .u8 (bt b (n : Int)) 1 = 48 := by rw [c3]; decide +kernel
      rw [if_pos c3, if_pos c3, if_pos (by omega), hx]
      simp only [Option.bind_some, Int.toNat_natCast, HW.out]
      have g1 := hsz1 48
      rw [if_pos (by rw [h0, g1]; omega), if_pos (by omega), if_pos (by omega), if_pos (by rw [ByteArray.size_append, h0, g1, h2]; omega), key 48 (by omega) (by omega)]
    · rw [if_neg c3, if_neg c3, str_bytes]

/-- The number of ones from place i on. -/
def ones (b : ByteArray) : Nat → Int
  | 0 => 0
  | n + 1 => ones b n + if bt b (n : Int) = 49 then 1 else 0
theorem ones_range (b : ByteArray) (n : Nat) : 0 ≤ ones b n ∧ ones b n ≤ n := by
  induction n with
  | zero => simp [ones]
  | succ n ih => simp only [ones]; split <;> omega
theorem weight_loop (b : ByteArray) (hs : b.size ≤ 4000) (q : Nat) : ∀ i : Nat, i ≤ b.size → b.size - i = q → Ev (fun k => bits_Weight.l0 k b (ones b i) b.size i) (ones b b.size) := by
  induction q with
  | zero =>
    intro i hi hq
    have : i = b.size := by omega
    subst this
    exact Ev.step (fun k => bits_Weight.l0.eq_2 ..) (ev_neg (by omega) (Ev.now _))
  | succ q ih =>
    intro i hi hq
    have hr := ones_range b i
    have HW : Hid (wrap64 ((i : Int) + 1) = ((i + 1 : Nat) : Int)) := by
      show wrap64 ((i : Int) + 1) = ((i + 1 : Nat) : Int)
      rw [w64 (by omega) (by omega)]; omega
    have HN : Hid (wrap64 (ones b i + 1) = ones b i + 1) := Lib.hid (w64 (by omega) (by omega))
    have e := ih (i + 1) (by omega) (by omega)
    refine Ev.step (fun k => bits_Weight.l0.eq_2 ..) ?_
    rw [HW.out, HN.out]
    refine ev_pos (by omega) (ev_pos (by omega) (ev_pos (by omega) ?_))
    by_cases c : bt b (i : Int) = 49
    · simp only [ones, if_pos c] at e
      exact ev_pos c e
    · simp only [ones, if_neg c, Int.add_zero] at e
      exact ev_neg c e
theorem weight_is (b : ByteArray) (hs : b.size ≤ 4000) : Ev (fun k => bits_Weight.f k b) (ones b b.size) := weight_loop b hs b.size 0 (by omega) (by omega)
end Go.Proofs.Ytfeddgeihpfjfaa
