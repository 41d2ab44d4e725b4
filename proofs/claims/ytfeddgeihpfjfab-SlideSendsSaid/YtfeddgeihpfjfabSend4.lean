/- The reference's sending end: Ack. -/
import Derived.Test.YtfeddgeihpfjfabSend3
set_option linter.unusedVariables false
set_option linter.unusedSimpArgs false
namespace Go.Proofs.Ytfeddgeihpfjfab
open Go.RowKit Crc Go.Proofs.YtfeddgeihpfjfabW.PrintWords

set_option maxRecDepth 100000 in
set_option maxHeartbeats 2000000 in
theorem mack_bad (g md : Nat) (hm : md = 8 ∨ md = 16) (got sent : Int) (v : Value) (t : ByteArray) (ht : t.size ≤ 140737488351232) (w : World) (hg : Blk w g #[.int .i64 (md : Int), v, .int .i64 got, .int .i64 sent] 32) (hb : (openS t.data.toList).2 ≠ 0 ∨ ¬ goodAck md (openS t.data.toList).1) :
    Calls Try.prog 21 #[.pointer (some ⟨g, 0, none⟩), .string t] w fun e w' => e = .returned (.int .i64 (if (openS t.data.toList).2 ≠ 0 then (openS t.data.toList).2 else 3)) ∧ Below w.heap.size w w' := by
  have HO : Hid (∀ W : World, Calls Try.prog 65 #[.string t] W fun e w' => e = .returned (.tuple #[.string (bs (openS t.data.toList).1), .int .i64 (openS t.data.toList).2]) ∧ Below W.heap.size W w') := fun W => refOpened_any t ht W
  have HG := Lib.hid hg
  clear hg
  by_cases he : (openS t.data.toList).2 ≠ 0
  · rw [if_pos he]
    generalize bs (openS t.data.toList).1 = x at HO
    generalize (openS t.data.toList).2 = e at HO he ⊢
    have q : (e != 0) = true := by simpa using he
    clear he hb
    go_enter Try.func21, Try.ntmps21
    go_wp2_with (go_at_call 65; ((with_reducible refine (HO.out _).mono ?_)); rintro e w1 ⟨rfl, hb⟩; have HB := Lib.hid hb; clear hb)
    go_ret
    exact ⟨rfl, HB.out⟩
  rw [if_neg he]
  have hng : ¬ goodAck md (openS t.data.toList).1 := hb.resolve_left he
  rw [show (openS t.data.toList).2 = 0 from Decidable.not_not.1 he] at HO
  clear he hb
  generalize (openS t.data.toList).1 = X at HO hng
  have hsz : (bs X).size = X.length := rfl
  have h0 : 2 ≤ X.length → (bs X).extract 0 1 = bs [X.getD 0 0] := fun h => by
    apply ByteArray.ext; apply Array.toList_inj.1; simp [bs, ByteArray.data_extract]
    cases X with
    | nil => simp at h
    | cons a l => simp
  have h1 : ∀ h : 1 < (bs X).size, (bs X)[1] = X.getD 1 0 := bs_get X 1
  generalize bs X = x at HO hsz h0 h1
  have HSZ := Lib.hid hsz
  have H0 := Lib.hid h0
  have H1 := Lib.hid h1
  clear hsz h0 h1
  by_cases c1 : x.size = 2
  · have q1 : ((x.size : Int) != 2) = false := by rw [bne_eq_false_iff_eq]; omega
    have l0 : 2 ≤ X.length := by rw [← HSZ.out]; omega
    have l2 : (1 : Int) ≤ x.size := by omega
    have l3 : 1 ≤ x.size := by omega
    have l1 : 1 < x.size := by omega
    have l1' : (1 : Int) < x.size := by omega
    have hwb : wrap64 (x[1].toNat : Int) = (x[1].toNat : Int) := byte64 _
    have C1 := Lib.hid c1
    clear c1
    by_cases c3 : X.getD 0 0 = 65
    · have q3 : ((x.extract 0 1).toList == [65]) = true := by rw [H0.out l0, c3, bytes_list]; rfl
      have q3' : ((x.extract 0 1).toList != [65]) = false := by rw [H0.out l0, c3, bytes_list]; rfl
      have c4 : md ≤ (X.getD 1 0).toNat := by
        rcases Nat.lt_or_ge (X.getD 1 0).toNat md with h | h
        · exact absurd ⟨by rw [← HSZ.out]; exact C1.out, c3, h⟩ hng
        · exact h
      have q4 : decide (md ≤ x[1].toNat) = true := decide_eq_true (by rw [H1.out l1]; omega)
      clear hng c3 c4 l0
      go_enter Try.func21, Try.ntmps21
      go_wp2_with (go_at_call 65; ((with_reducible refine (HO.out _).mono ?_)); rintro e w1 ⟨rfl, hb⟩; have HB := Lib.hid hb; have hc0 := (blk_below hb HG.out).cell 0 rfl; clear hb)
      go_quiet (fail)
      go_wp2
      go_ret
      exact ⟨rfl, below_drewN HB.out _⟩
    · have q3 : ((x.extract 0 1).toList == [65]) = false := by
        rw [H0.out l0, beq_eq_false_iff_ne, bytes_list]; intro h; apply c3; simpa [bs] using h
      have q3' : ((x.extract 0 1).toList != [65]) = true := by
        rw [H0.out l0, bne_iff_ne, bytes_list]; intro h; apply c3; simpa [bs] using h
      clear hng c3 l0
      go_enter Try.func21, Try.ntmps21
      go_wp2_with (go_at_call 65; ((with_reducible refine (HO.out _).mono ?_)); rintro e w1 ⟨rfl, hb⟩; have HB := Lib.hid hb; clear hb)
      go_quiet (fail)
      go_wp2
      go_ret
      exact ⟨rfl, below_drewN HB.out _⟩
  · have q1 : ((x.size : Int) != 2) = true := by rw [bne_iff_ne]; omega
    clear hng c1
    go_enter Try.func21, Try.ntmps21
    go_wp2_with (go_at_call 65; ((with_reducible refine (HO.out _).mono ?_)); rintro e w1 ⟨rfl, hb⟩; have HB := Lib.hid hb; clear hb)
    go_quiet (fail)
    go_wp2
    go_ret
    exact ⟨rfl, below_drewN HB.out _⟩
attribute [local go_sem] min_ints max_ints
/-- What becomes of a good acknowledgement. -/
def ackG (s : Snd) (n : Nat) : Int × Snd := if n = 0 ∨ s.all.length - s.got < n then (13, s) else (0, ⟨s.all, s.got + n, max s.sent (s.got + n)⟩)
set_option maxRecDepth 100000 in
set_option maxHeartbeats 4000000 in
theorem mack_good (B g md : Nat) (v : Value) (s : Snd) (hs : SndOK md s) (hal : s.all.length ≤ 1000) (t : ByteArray) (ht : t.size ≤ 140737488351232) (w : World) (h : MAt w B g md v s) (he : (openS t.data.toList).2 = 0) (hgd : goodAck md (openS t.data.toList).1) :
    Calls Try.prog 21 #[.pointer (some ⟨g, 0, none⟩), .string t] w fun e w' => e = .returned (.int .i64 (ackG s (ackN md s.got ((openS t.data.toList).1.getD 1 0).toNat)).1) ∧ MAt w' B g md v (ackG s (ackN md s.got ((openS t.data.toList).1.getD 1 0).toNat)).2 ∧ Fr (· = g) w w' := by
  have HO : Hid (∀ W : World, Calls Try.prog 65 #[.string t] W fun e w' => e = .returned (.tuple #[.string (bs (openS t.data.toList).1), .int .i64 (openS t.data.toList).2]) ∧ Below W.heap.size W w') := fun W => refOpened_any t ht W
  rw [he] at HO
  obtain ⟨A, c, rfl, hcc1, hcc2⟩ := h.2.slice
  have HG := Lib.hid h.1
  have HOW := Lib.hid h.2
  have HNG := Lib.hid (h.2.ne h.1 (by decide))
  clear he h
  generalize (openS t.data.toList).1 = X at HO hgd ⊢
  obtain ⟨g1, g2, g3⟩ := ack_good hgd
  have hsz : (bs X).size = X.length := rfl
  have h0 : 2 ≤ X.length → (bs X).extract 0 1 = bs [X.getD 0 0] := fun h => by
    apply ByteArray.ext; apply Array.toList_inj.1; simp [bs, ByteArray.data_extract]
    cases X with
    | nil => simp at h
    | cons a l => simp
  have h1 : ∀ h : 1 < (bs X).size, (bs X)[1] = X.getD 1 0 := bs_get X 1
  generalize bs X = x at HO hsz h0 h1
  have l1 : 1 < x.size := by omega
  have l1' : (1 : Int) < x.size := by omega
  have l2 : (1 : Int) ≤ x.size := by omega
  have l3 : 1 ≤ x.size := by omega
  have hwb : wrap64 (x[1].toNat : Int) = (x[1].toNat : Int) := byte64 _
  have q1 : ((x.size : Int) != 2) = false := by rw [bne_eq_false_iff_eq]; omega
  have q3 : ((x.extract 0 1).toList == [65]) = true := by rw [h0 (by omega), g2, bytes_list]; rfl
  have q3' : ((x.extract 0 1).toList != [65]) = false := by rw [h0 (by omega), g2, bytes_list]; rfl
  have q4 : decide (md ≤ x[1].toNat) = false := decide_eq_false (by rw [h1 l1]; omega)
  have e1 : x[1].toNat = (X.getD 1 0).toNat := by rw [h1 l1]
  have hmo := hs.mo
  have hwd := hs.wd
  have hgs := hs.gs
  have hsl := hs.sl
  have hx1 : x[1].toNat < md := by omega
  have HIS : Hid (∀ j, j < md → ((s.got + j) % md = x[1].toNat ↔ ackN md s.got (X.getD 1 0).toNat = j)) := fun j hj => by
    rw [e1]; exact ackN_is hmo s.got _ j (by omega) hj
  clear hsz h0 h1 g1 g2 g3 hgd e1
  generalize ackN md s.got (X.getD 1 0).toNat = n at HIS ⊢
  have HAG : Hid (ackG s n = if n = 0 ∨ s.all.length - s.got < n then (13, s) else (0, ⟨s.all, s.got + n, max s.sent (s.got + n)⟩)) := rfl
  generalize ackG s n = Rr at HAG ⊢
  obtain ⟨code, s'⟩ := Rr
  show Calls _ _ _ _ fun e w' => e = .returned (.int .i64 code) ∧ MAt w' B g md (.slice A s.all.length c) s' ∧ Fr (· = g) w w'
  go_enter Try.func21, Try.ntmps21
  go_wp2_with (go_at_call 65; ((with_reducible refine (HO.out _).mono ?_)); rintro e w1 ⟨rfl, hb⟩; have HB := Lib.hid hb; have HG1 := Lib.hid (blk_below hb HG.out); have HOW1 := Lib.hid (HOW.out.below hb); have hc0 := (blk_below hb HG.out).cell 0 rfl; have hc2 := (blk_below hb HG.out).cell 2 rfl; clear hb)
  go_quiet (fail)
  go_wp2
  have HF0 : Hid (Fr (· = g) w (w1.drewN nq)) := (Fr.of_below HB.out).drewN _
  have HG0 : Hid (Blk (w1.drewN nq) g #[.int .i64 (md : Int), .slice A s.all.length c, .int .i64 (s.got : Int), .int .i64 (s.sent : Int)] 32) := HG1.out
  have HOW0 : Hid (OwnAt (w1.drewN nq) B 9 1 (.slice A s.all.length c) s.all.length (cellsB s.all)) := HOW1.out
  clear hc0 hc2 HB HG1 HOW1 HOW HG
  generalize w1.drewN nq = W0 at HF0 HG0 HOW0 ⊢
  go_loopw [7] (fun k7 W => ∃ j : Nat, 1 ≤ j ∧ s.got + j ≤ s.all.length + 1 ∧ k7 = .int .i64 ((s.got + j : Nat) : Int) ∧ Hid (n = 0 ∨ j ≤ n) ∧ Hid (∃ m, W = W0.drewN m)) (fun k7 _ => s.all.length + 1 - (intOf k7).toNat)
  case atStart => exact ⟨1, by omega, by omega, by simp, by show _ ∨ _; omega, 0, rfl⟩
  case round =>
    obtain ⟨j, hj1, hj2, rfl, HNJ, hm⟩ := hrel
    obtain ⟨m, rfl⟩ := hm
    have hc0 := HG0.out.cell 0 rfl
    have hc1 := HG0.out.cell 1 rfl
    have hc2 := HG0.out.cell 2 rfl
    have hc3 := HG0.out.cell 3 rfl
    have f2 := HG0.out.free 2
    have f3 := HG0.out.free 3
    obtain ⟨q, hq⟩ : ∃ q, q = s.got + j := ⟨_, rfl⟩
    rw [← hq] at hj2 ⊢
    have HQ := Lib.hid hq
    by_cases hlt : q ≤ s.all.length
    · have hjm : j < md := by omega
      have hiff := HIS.out j hjm
      rw [← hq] at hiff
      clear hq
      have hw4 : ((md : Int) == 0) = false := by rw [beq_eq_false_iff_ne]; omega
      have hw2 : Int.tmod (q : Int) (md : Int) = ((q % md : Nat) : Int) := by
        rw [Int.tmod_eq_emod_of_nonneg (by omega), Int.natCast_emod]
      have hrb : q % md < md := Nat.mod_lt _ (by omega)
      by_cases hnj : n = j
      · have hqe : q % md = x[1].toNat := hiff.2 hnj
        have q5 : (((q % md : Nat) : Int) == (x[1].toNat : Int)) = true := by rw [beq_iff_eq]; omega
        have q5' : (q % md == x[1].toNat) = true := by rw [beq_iff_eq]; omega
        have HRS : Hid (code = 0 ∧ s' = ⟨s.all, s.got + n, max s.sent (s.got + n)⟩) := by
          have h := HAG.out
          rw [if_neg (by have := HQ.out; omega)] at h
          exact ⟨congrArg Prod.fst h, congrArg Prod.snd h⟩
        generalize q % md = r at hw2 hrb hqe q5 q5'
        clear hiff
        go_wp2
        go_quiet (fail)
        go_wp2
        go_ret
        have hqn : q = s.got + n := by have := HQ.out; omega
        obtain ⟨e2, e3⟩ := HRS.out
        rw [e2, e3, ← hqn]
        have hmx : max (s.sent : Int) (q : Int) = ((max s.sent q : Nat) : Int) := by omega
        rw [hmx]
        have h8 := ((HG0.out.drewN (m + nq)).set 2 (.int .i64 (q : Int))).set 3 (.int .i64 ((max s.sent q : Nat) : Int))
        refine ⟨rfl, ⟨h8, ?_⟩, ?_⟩
        · have h := HOW0.out.drewN (m + nq)
          have hne := HNG.out
          exact (h.setCell hne _).setCell hne _
        · exact ((HF0.out.drewN (m + nq)).set1 2 _).set1 3 _
      · have hqe : q % md ≠ x[1].toNat := fun h => hnj (hiff.1 h)
        have q5 : (((q % md : Nat) : Int) == (x[1].toNat : Int)) = false := by rw [beq_eq_false_iff_ne]; omega
        have q5' : (q % md == x[1].toNat) = false := by rw [beq_eq_false_iff_ne]; omega
        generalize q % md = r at hw2 hrb hqe q5 q5'
        clear hiff
        go_wp2
        go_quiet (fail)
        go_wp2
        go_roundw
        case rel => exact ⟨j + 1, by omega, by have := HQ.out; omega, by have := HQ.out; simp; omega, by have := HNJ.out; show _ ∨ _; omega, _, rfl⟩
        case measure => simp [intOf]; omega
    · have HRS : Hid (code = 13 ∧ s' = s) := by
        have h := HAG.out
        rw [if_pos (by have := HQ.out; have := HNJ.out; omega)] at h
        exact ⟨congrArg Prod.fst h, congrArg Prod.snd h⟩
      go_wp2
      go_ret
      obtain ⟨e2, e3⟩ := HRS.out
      rw [e2, e3]
      exact ⟨rfl, ⟨HG0.out, HOW0.out⟩, HF0.out.drewN _⟩
end Go.Proofs.Ytfeddgeihpfjfab
