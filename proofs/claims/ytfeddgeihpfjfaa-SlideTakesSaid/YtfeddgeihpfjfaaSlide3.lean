/- The reference's receiving end. -/
import Derived.Test.YtfeddgeihpfjfaaSlide2
set_option linter.unusedSimpArgs false
set_option linter.unusedVariables false
namespace Go.Proofs.Ytfeddgeihpfjfaa
open Go.RowKit Crc

set_option maxRecDepth 100000 in
theorem taking_err (g : Nat) (t : ByteArray) (ht : t.size ≤ 140737488351232) (he : (openS t.data.toList).2 ≠ 0) (w : World) :
    Calls Try.prog 38 #[.pointer (some ⟨g, 0, none⟩), .string t] w fun e w' => e = .returned (.tuple #[.string (bs []), .bool false, .string (bs []), .int .i64 (openS t.data.toList).2]) ∧ Below w.heap.size w w' := by
  have HO : Hid (∀ W : World, Calls Try.prog 28 #[.string t] W fun e w' => e = .returned (.tuple #[.string (bs (openS t.data.toList).1), .int .i64 (openS t.data.toList).2]) ∧ Below W.heap.size W w') := fun W => refOpened_any t ht W
  generalize bs (openS t.data.toList).1 = x at HO
  generalize (openS t.data.toList).2 = e at HO he ⊢
  have q : (e != 0) = true := by simpa using he
  clear he
  go_enter Try.func38, Try.ntmps38
  go_wp2_with (go_at_call 28; ((with_reducible refine (HO.out _).mono ?_)); rintro e w1 ⟨rfl, hb⟩; have HB := Lib.hid hb; clear hb)
  refine bodyPost_ret (results_tmp4 rfl _ _ _) rfl ⟨rfl, HB.out⟩

set_option maxRecDepth 100000 in
set_option maxHeartbeats 1000000 in
theorem taking_form (g md : Nat) (nx : Int) (t : ByteArray) (ht : t.size ≤ 140737488351232) (he : (openS t.data.toList).2 = 0) (hf : ¬ goodForm md (openS t.data.toList).1) (hmd : md < 1000) (w : World) (hg : Blk w g #[.int .i64 md, .int .i64 nx] 52) :
    Calls Try.prog 38 #[.pointer (some ⟨g, 0, none⟩), .string t] w fun e w' => e = .returned (.tuple #[.string (bs []), .bool false, .string (bs []), .int .i64 3]) ∧ Below w.heap.size w w' := by
  have HO : Hid (∀ W : World, Calls Try.prog 28 #[.string t] W fun e w' => e = .returned (.tuple #[.string (bs (openS t.data.toList).1), .int .i64 0]) ∧ Below W.heap.size W w') := fun W => he ▸ refOpened_any t ht W
  clear he
  generalize (openS t.data.toList).1 = X at HO hf
  have hsz : (bs X).size = X.length := rfl
  have h0 : 2 ≤ X.length → (bs X).extract 0 1 = bs [X.getD 0 0] := fun h => by
    apply ByteArray.ext; apply Array.toList_inj.1; simp [bs, ByteArray.data_extract]
    cases X with
    | nil => simp at h
    | cons a l => simp
  have h1 : ∀ h : 1 < (bs X).size, (bs X)[1] = X.getD 1 0 := bs_get X 1
  generalize bs X = x at HO hsz h0 h1
  have HSZ := Lib.hid hsz
  have H0 := Lib.hid h0
  have H1 := Lib.hid h1
  have HG := Lib.hid hg
  clear hsz h0 h1 hg
  by_cases c1 : x.size < 2
  · have q1 : decide ((x.size : Int) < 2) = true := by simp; omega
    clear hf
    go_enter Try.func38, Try.ntmps38
    go_wp2_with (go_at_call 28; ((with_reducible refine (HO.out _).mono ?_)); rintro e w1 ⟨rfl, hb⟩; have HB := Lib.hid hb; clear hb)
    go_quiet (fail)
    go_wp2_with fail
    refine bodyPost_ret (results_tmp4 rfl _ _ _) rfl ⟨rfl, below_drewN HB.out _⟩
  · have q1 : decide ((x.size : Int) < 2) = false := by simp; omega
    have l0 : 2 ≤ X.length := by rw [← HSZ.out]; omega
    have l1 : 1 < x.size := by omega
    have l1' : (1 : Int) < x.size := by omega
    have l2 : (1 : Int) ≤ x.size := by omega
    have l3 : 1 ≤ x.size := by omega
    have hwb : wrap64 (x[1].toNat : Int) = (x[1].toNat : Int) := byte64 _
    by_cases c3 : X.getD 0 0 = 68
    · have q3 : ((x.extract 0 1).toList == [68]) = true := by rw [H0.out l0, c3, bytes_list]; rfl
      have q3' : ((x.extract 0 1).toList != [68]) = false := by rw [H0.out l0, c3, bytes_list]; rfl
      by_cases c4 : md ≤ (X.getD 1 0).toNat
      · have q4 : decide (md ≤ x[1].toNat) = true := decide_eq_true (by rw [H1.out l1]; omega)
        clear hf c3 c4 l0
        go_enter Try.func38, Try.ntmps38
        go_wp2_with (go_at_call 28; ((with_reducible refine (HO.out _).mono ?_)); rintro e w1 ⟨rfl, hb⟩; have HB := Lib.hid hb; have hc0 := (blk_below hb HG.out).cell 0 rfl; clear hb)
        go_quiet (fail)
        go_wp2_with fail
        refine bodyPost_ret (results_tmp4 rfl _ _ _) rfl ⟨rfl, below_drewN HB.out _⟩
      · have q4 : decide (md ≤ x[1].toNat) = false := decide_eq_false (by rw [H1.out l1]; omega)
        have c5 : 1502 < x.size := by
          rcases Nat.lt_or_ge 1502 x.size with h | h
          · exact h
          · exact absurd ⟨l0, by rw [← HSZ.out]; exact h, c3, by omega⟩ hf
        have q5 : decide ((1502 : Int) < x.size) = true := decide_eq_true (by omega)
        clear hf c3 c4 l0
        go_enter Try.func38, Try.ntmps38
        go_wp2_with (go_at_call 28; ((with_reducible refine (HO.out _).mono ?_)); rintro e w1 ⟨rfl, hb⟩; have HB := Lib.hid hb; have hc0 := (blk_below hb HG.out).cell 0 rfl; clear hb)
        go_quiet (fail)
        go_wp2_with fail
        refine bodyPost_ret (results_tmp4 rfl _ _ _) rfl ⟨rfl, below_drewN HB.out _⟩
    · have q3 : ((x.extract 0 1).toList == [68]) = false := by
        rw [H0.out l0, beq_eq_false_iff_ne, bytes_list]; intro h; apply c3; simpa [bs] using h
      have q3' : ((x.extract 0 1).toList != [68]) = true := by
        rw [H0.out l0, bne_iff_ne, bytes_list]; intro h; apply c3; simpa [bs] using h
      clear hf c3 l0
      go_enter Try.func38, Try.ntmps38
      go_wp2_with (go_at_call 28; ((with_reducible refine (HO.out _).mono ?_)); rintro e w1 ⟨rfl, hb⟩; have HB := Lib.hid hb; clear hb)
      go_quiet (fail)
      go_wp2_with fail
      refine bodyPost_ret (results_tmp4 rfl _ _ _) rfl ⟨rfl, below_drewN HB.out _⟩

theorem ack_any (q : Nat) (hq : q < 256) (w : World) :
    Calls Try.prog 36 #[.string ⟨#[65]⟩, .int .i64 (q : Int), .string ⟨#[]⟩] w fun e w' => e = .returned (.string (bs (ackOf q))) ∧ Below w.heap.size w w' := by
  have h := numbered_any ⟨#[65]⟩ ⟨#[]⟩ 65 rfl q (by decide) w
  rw [byteOf_nat q hq] at h
  exact h

set_option maxRecDepth 100000 in
set_option maxHeartbeats 2000000 in
theorem taking_old (g md got : Nat) (t : ByteArray) (ht : t.size ≤ 140737488351232) (he : (openS t.data.toList).2 = 0) (hf : goodForm md (openS t.data.toList).1)
    (hn : ((openS t.data.toList).1.getD 1 0).toNat ≠ got % md) (hmd : md < 256) (hm0 : 0 < md) (hgot : got < 1000) (w : World) (hg : Blk w g #[.int .i64 md, .int .i64 got] 52) :
    Calls Try.prog 38 #[.pointer (some ⟨g, 0, none⟩), .string t] w fun e w' =>
      e = .returned (.tuple #[.string (bs []), .bool false, .string (bs (ackOf (got % md))), .int .i64 0]) ∧ Below w.heap.size w w' := by
  have HO : Hid (∀ W : World, Calls Try.prog 28 #[.string t] W fun e w' => e = .returned (.tuple #[.string (bs (openS t.data.toList).1), .int .i64 0]) ∧ Below W.heap.size W w') := fun W => he ▸ refOpened_any t ht W
  clear he
  generalize (openS t.data.toList).1 = X at HO hf hn ⊢
  obtain ⟨f1, f2, f3, f4⟩ := hf
  have hbody : (bs X).extract 2 (bs X).size = bs (X.drop 2) := by
    apply ByteArray.ext; apply Array.toList_inj.1; simp [bs, ByteArray.data_extract]
    exact List.take_of_length_le (by rw [List.length_drop]; exact Nat.le_refl _)
  have HBD := Lib.hid hbody
  have hsz : (bs X).size = X.length := rfl
  have h0 : (bs X).extract 0 1 = bs [X.getD 0 0] := by
    apply ByteArray.ext; apply Array.toList_inj.1; simp [bs, ByteArray.data_extract]
    cases X with
    | nil => simp at f1
    | cons a l => simp
  have h1 : ∀ h : 1 < (bs X).size, (bs X)[1] = X.getD 1 0 := bs_get X 1
  clear hbody
  generalize bs (X.drop 2) = body at HBD
  generalize bs X = x at HO hsz h0 h1 HBD
  have l1 : 1 < x.size := by omega
  have l1' : (1 : Int) < x.size := by omega
  have l2 : (1 : Int) ≤ x.size := by omega
  have l3 : 1 ≤ x.size := by omega
  have hwb : wrap64 (x[1].toNat : Int) = (x[1].toNat : Int) := byte64 _
  have q1 : decide ((x.size : Int) < 2) = false := by simp; omega
  have q3 : ((x.extract 0 1).toList == [68]) = true := by rw [h0, f3, bytes_list]; rfl
  have q3' : ((x.extract 0 1).toList != [68]) = false := by rw [h0, f3, bytes_list]; rfl
  have q4 : decide (md ≤ x[1].toNat) = false := decide_eq_false (by rw [h1 l1]; omega)
  have q5 : decide ((1502 : Int) < x.size) = false := decide_eq_false (by omega)
  have q6 : (x[1].toNat == got % md) = false := by rw [h1 l1, beq_eq_false_iff_ne]; exact hn
  have q7 : (x[1].toNat != got % md) = true := by rw [bne, q6]; rfl
  have HG := Lib.hid hg
  clear hg hsz h0 h1 f1 f2 f3 f4 hn
  have e1 : (got : Int).tmod (md : Int) = ((got % md : Nat) : Int) := by rw [Int.tmod_eq_emod_of_nonneg (by omega)]; norm_cast
  have e3 : ((md : Int) == 0) = false := by simp; omega
  have e4 : md ≠ 0 := by omega
  have HA : Hid (∀ W : World, Calls Try.prog 36 #[.string ⟨#[65]⟩, .int .i64 ((got % md : Nat) : Int), .string ⟨#[]⟩] W fun e w' => e = .returned (.string (bs (ackOf (got % md)))) ∧ Below W.heap.size W w') := fun W => ack_any _ (Nat.lt_of_lt_of_le (Nat.mod_lt _ hm0) (by omega)) W
  generalize bs (ackOf (got % md)) = b at HA ⊢
  generalize got % md = q at q6 q7 e1 HA
  have q8 : ((x[1].toNat : Int) != (q : Int)) = true := by rw [bne_iff_ne] at q7 ⊢; omega
  go_enter Try.func38, Try.ntmps38
  go_wp2_with (go_at_call 28; ((with_reducible refine (HO.out _).mono ?_)); rintro e w1 ⟨rfl, hb⟩; have HB := Lib.hid hb; have hc0 := (blk_below hb HG.out).cell 0 rfl; have hc1 := (blk_below hb HG.out).cell 1 rfl; clear hb)
  go_quiet (fail)
  go_wp2_with fail
  go_quiet (fail)
  go_wp2_with fail
  go_region_held3 (fun W => W.cell? ⟨g, 0, none⟩ = some (.int .i64 md) ∧ W.cell? ⟨g, 1, none⟩ = some (.int .i64 got)) (go_keep) ((go_at_call 36; ((with_reducible refine (HA.out _).mono ?_)); rintro e w2 ⟨rfl, hb2⟩; have HB2 := Lib.hid hb2; have k0 := (hb2.cell (p := ⟨g, 0, none⟩) (by have := (blk_below HB.out HG.out).lt; exact this)).trans hc0; have k1 := (hb2.cell (p := ⟨g, 1, none⟩) (by have := (blk_below HB.out HG.out).lt; exact this)).trans hc1; clear hb2))
  go_wp2_with fail
  refine bodyPost_ret (results_tmp4 rfl _ _ _) rfl ⟨rfl, ?_⟩
  exact HB.out.trans ((below_of_drewN HB2.out).mono HB.out.size)

set_option maxRecDepth 100000 in
set_option maxHeartbeats 2000000 in
theorem taking_fresh (g md got : Nat) (t : ByteArray) (ht : t.size ≤ 140737488351232) (he : (openS t.data.toList).2 = 0) (hf : goodForm md (openS t.data.toList).1)
    (hn : ((openS t.data.toList).1.getD 1 0).toNat = got % md) (hmd : md < 256) (hm0 : 0 < md) (hgot : got < 1000) (w : World) (hg : Blk w g #[.int .i64 md, .int .i64 got] 52) :
    Calls Try.prog 38 #[.pointer (some ⟨g, 0, none⟩), .string t] w fun e w' =>
      e = .returned (.tuple #[.string (bs ((openS t.data.toList).1.drop 2)), .bool true, .string (bs (ackOf ((got + 1) % md))), .int .i64 0]) ∧
      Blk w' g #[.int .i64 md, .int .i64 ((got : Int) + 1)] 52 ∧ Fr (· = g) w w' := by
  have HO : Hid (∀ W : World, Calls Try.prog 28 #[.string t] W fun e w' => e = .returned (.tuple #[.string (bs (openS t.data.toList).1), .int .i64 0]) ∧ Below W.heap.size W w') := fun W => he ▸ refOpened_any t ht W
  clear he
  generalize (openS t.data.toList).1 = X at HO hf hn ⊢
  obtain ⟨f1, f2, f3, f4⟩ := hf
  have hbody : (bs X).extract 2 (bs X).size = bs (X.drop 2) := by
    apply ByteArray.ext; apply Array.toList_inj.1; simp [bs, ByteArray.data_extract]
    exact List.take_of_length_le (by rw [List.length_drop]; exact Nat.le_refl _)
  have HBD := Lib.hid hbody
  have hsz : (bs X).size = X.length := rfl
  have h0 : (bs X).extract 0 1 = bs [X.getD 0 0] := by
    apply ByteArray.ext; apply Array.toList_inj.1; simp [bs, ByteArray.data_extract]
    cases X with
    | nil => simp at f1
    | cons a l => simp
  have h1 : ∀ h : 1 < (bs X).size, (bs X)[1] = X.getD 1 0 := bs_get X 1
  clear hbody
  generalize bs (X.drop 2) = body at HBD ⊢
  generalize bs X = x at HO hsz h0 h1 HBD
  have l1 : 1 < x.size := by omega
  have l1' : (1 : Int) < x.size := by omega
  have l2 : (1 : Int) ≤ x.size := by omega
  have l3 : 1 ≤ x.size := by omega
  have hwb : wrap64 (x[1].toNat : Int) = (x[1].toNat : Int) := byte64 _
  have q1 : decide ((x.size : Int) < 2) = false := by simp; omega
  have q3 : ((x.extract 0 1).toList == [68]) = true := by rw [h0, f3, bytes_list]; rfl
  have q3' : ((x.extract 0 1).toList != [68]) = false := by rw [h0, f3, bytes_list]; rfl
  have q4 : decide (md ≤ x[1].toNat) = false := decide_eq_false (by rw [h1 l1]; omega)
  have q5 : decide ((1502 : Int) < x.size) = false := decide_eq_false (by omega)
  have q6 : (x[1].toNat == got % md) = true := by rw [h1 l1, beq_iff_eq]; exact hn
  have q7 : (x[1].toNat != got % md) = false := by rw [bne, q6]; rfl
  have HG := Lib.hid hg
  clear hg hsz h0 h1 f1 f2 f3 f4 hn
  have e1 : (got : Int).tmod (md : Int) = ((got % md : Nat) : Int) := by rw [Int.tmod_eq_emod_of_nonneg (by omega)]; norm_cast
  have e3 : ((md : Int) == 0) = false := by simp; omega
  have e4 : md ≠ 0 := by omega
  have HA : Hid (∀ W : World, Calls Try.prog 36 #[.string ⟨#[65]⟩, .int .i64 (((got + 1) % md : Nat) : Int), .string ⟨#[]⟩] W fun e w' => e = .returned (.string (bs (ackOf ((got + 1) % md)))) ∧ Below W.heap.size W w') := fun W => ack_any _ (Nat.lt_of_lt_of_le (Nat.mod_lt _ hm0) (by omega)) W
  have e2 : ((got : Int) + 1).tmod (md : Int) = (((got + 1) % md : Nat) : Int) := by rw [Int.tmod_eq_emod_of_nonneg (by omega)]; norm_cast
  generalize bs (ackOf ((got + 1) % md)) = b at HA ⊢
  generalize got % md = q at q6 q7 e1
  generalize (got + 1) % md = q' at e2 HA
  have q8 : ((x[1].toNat : Int) != (q : Int)) = false := by rw [bne_eq_false_iff_eq] at q7 ⊢; omega
  have l4 : (2 : Int) ≤ x.size := by omega
  have HX : Hid (x.extract 2 x.size = body) := HBD.out
  have E2 := Lib.hid e2
  clear HBD e2
  go_enter Try.func38, Try.ntmps38
  go_wp2_with (go_at_call 28; ((with_reducible refine (HO.out _).mono ?_)); rintro e w1 ⟨rfl, hb⟩; have HB := Lib.hid hb; have hc0 := (blk_below hb HG.out).cell 0 rfl; have hc1 := (blk_below hb HG.out).cell 1 rfl; have hf1 := (blk_below hb HG.out).free 1; clear hb)
  go_quiet (fail)
  go_wp2_with fail
  go_quiet (fail)
  go_wp2_with fail
  have e2 := E2.out
  have HK : Hid (∀ n : Nat, Blk ((w1.drewN n).setCell ⟨g, 1, none⟩ (.int .i64 ((got : Int) + 1))) g #[.int .i64 md, .int .i64 ((got : Int) + 1)] 52) := fun n => ((blk_below HB.out HG.out).drewN n).set 1 _
  have HF : Hid (∀ n : Nat, Fr (· = g) w ((w1.drewN n).setCell ⟨g, 1, none⟩ (.int .i64 ((got : Int) + 1)))) := fun n => ((Fr.of_below HB.out).drewN n).set1 _ _
  have s0 : ∀ n : Nat, ((w1.drewN n).setCell ⟨g, 1, none⟩ (.int .i64 ((got : Int) + 1))).cell? ⟨g, 0, none⟩ = some (.int .i64 md) := fun n => (HK.out n).cell 0 rfl
  have s1 : ∀ n : Nat, ((w1.drewN n).setCell ⟨g, 1, none⟩ (.int .i64 ((got : Int) + 1))).cell? ⟨g, 1, none⟩ = some (.int .i64 ((got : Int) + 1)) := fun n => (HK.out n).cell 1 rfl
  clear hc0 hc1 hf1
  go_region_held3 (fun W => W.cell? ⟨g, 0, none⟩ = some (.int .i64 md) ∧ W.cell? ⟨g, 1, none⟩ = some (.int .i64 ((got : Int) + 1))) (go_keep) ((go_at_call 36; ((with_reducible refine (HA.out _).mono ?_)); rintro e w2 ⟨rfl, hb2⟩; have HB2 := Lib.hid hb2; have k0 := ((blk_below hb2 (HK.out _)).cell 0 rfl); have k1 := ((blk_below hb2 (HK.out _)).cell 1 rfl); clear hb2))
  go_wp2_with fail
  refine bodyPost_ret (results_tmp4 rfl _ _ _) rfl ⟨by rw [← HX.out]; rfl, ?_⟩
  exact ⟨blk_below HB2.out (HK.out _), (HF.out _).trans (Fr.of_below (below_of_drew HB2.out))⟩

theorem taking_any (g md got : Nat) (hm : md = 8 ∨ md = 16) (hgot : got < 1000) (t : ByteArray) (ht : t.size ≤ 140737488351232) (w : World) (hg : Blk w g #[.int .i64 md, .int .i64 got] 52) :
    Calls Try.prog 38 #[.pointer (some ⟨g, 0, none⟩), .string t] w fun e w' => e = .returned (tookV (takeS md got t.data.toList)) ∧
      Blk w' g #[.int .i64 md, .int .i64 ((takeS md got t.data.toList).got : Int)] 52 ∧ Fr (· = g) w w' := by
  obtain ⟨h0, h1⟩ := ofKind hm
  by_cases he : (openS t.data.toList).2 = 0
  · by_cases hf : goodForm md (openS t.data.toList).1
    · by_cases hn : ((openS t.data.toList).1.getD 1 0).toNat = got % md
      · have hE : takeS md got t.data.toList = ⟨(openS t.data.toList).1.drop 2, true, ackOf ((got + 1) % md), 0, got + 1⟩ := by
          simp only [takeS]; rw [if_neg (by simp [he]), if_neg (by simp [hf]), if_pos hn]
        rw [hE]
        exact taking_fresh g md got t ht he hf hn h1 h0 hgot w hg
      · have hE : takeS md got t.data.toList = ⟨[], false, ackOf (got % md), 0, got⟩ := by
          simp only [takeS]; rw [if_neg (by simp [he]), if_neg (by simp [hf]), if_neg hn]
        rw [hE]
        exact (taking_old g md got t ht he hf hn h1 h0 hgot w hg).mono fun e w' ⟨h1, h2⟩ => ⟨h1, blk_below h2 hg, Fr.of_below h2⟩
    · have hE : takeS md got t.data.toList = ⟨[], false, [], 3, got⟩ := by
        simp only [takeS]; rw [if_neg (by simp [he]), if_pos hf]
      rw [hE]
      exact (taking_form g md _ t ht he hf (by omega) w hg).mono fun e w' ⟨h1, h2⟩ => ⟨h1, blk_below h2 hg, Fr.of_below h2⟩
  · have hE : takeS md got t.data.toList = ⟨[], false, [], (openS t.data.toList).2, got⟩ := by
      simp only [takeS]; rw [if_pos he]
    rw [hE]
    exact (taking_err g t ht he w).mono fun e w' ⟨h1, h2⟩ => ⟨h1, blk_below h2 hg, Fr.of_below h2⟩
end Go.Proofs.Ytfeddgeihpfjfaa
