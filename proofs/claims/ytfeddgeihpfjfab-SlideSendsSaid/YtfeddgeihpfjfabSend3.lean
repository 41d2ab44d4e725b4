/- The sending ends: Ack. -/
import Derived.Test.YtfeddgeihpfjfabSend2b
import Derived.WalkSpells
set_option linter.unusedVariables false
set_option linter.unusedSimpArgs false
namespace Go.Proofs.Ytfeddgeihpfjfab
open Go.RowKit Crc Go.Proofs.YtfeddgeihpfjfabW.PrintWords

theorem OwnAt.lower {W : World} {base base' e size n : Nat} {v : Value} {xs : List Value} (h : OwnAt W base e size v n xs) (hb : base' ≤ base) : OwnAt W base' e size v n xs := by
  refine ⟨h.1, ?_⟩
  rcases h.2 with h | ⟨g', o, cap, cur, he, hb', rest⟩
  · exact .inl h
  · exact .inr ⟨g', o, cap, cur, he, by omega, rest⟩
theorem own_zero (w : World) (e : TypeId) : OwnAt (w.alloc (.cells #[] e)) w.heap.size e 1 (.slice (some ⟨w.heap.size, 0, none⟩) 0 0) 0 [] :=
  ⟨rfl, .inr ⟨w.heap.size, 0, 0, #[], rfl, Nat.le_refl _, Blk.new w _ _, Nat.le_refl _, by unfold maxLen; omega, by simp, by simp⟩⟩
set_option maxRecDepth 100000 in
set_option maxHeartbeats 1000000 in
theorem clone_any (B : Nat) (ad : Addr) (c : Nat) (xs : List ByteArray) (w : World) (hl : xs.length ≤ 1000) (hcell : ∀ j u, (cellsB xs)[j]? = some u → w.cell? (ad.add j) = some u) :
    Calls Try.prog 64 #[.slice (some ad) xs.length c] w fun e w' => ∃ v', e = .returned v' ∧ OwnAt w' w.heap.size 9 1 v' xs.length (cellsB xs) ∧ Below w.heap.size w w' := by
  have HC := Lib.hid hcell
  clear hcell
  have hm1 : 0 + xs.length ≤ maxLen := by unfold maxLen; omega
  have hm2 : (0 + xs.length) * 16 ≤ 140737488355328 := by omega
  have HS : Hid (Src Try.prog 1 23 (.slice (some ad) xs.length c) xs.length (cellsB xs) (w.alloc (.cells #[] 9))) :=
    Src.ofSlice _ Try.underlying23 ad xs.length c _ (cellsB_len xs) (fun j u hu => by
      have h := HC.out j u hu
      exact pw_cell_below ((Below.refl _ _).alloc (Nat.le_refl _) _) h) (cellsB_one _)
  have hne := fun (W : World) => Lib.run_eql_slice_nil (P := Try.prog) W 23 9 (some ad) xs.length c 0 0 Try.underlying23
  simp only [Option.isNone_some] at hne
  go_enter Try.func64, Try.ntmps64
  go_wp2_with (at_builtin; refine wpList_append_at rfl (.tmp 5) (.tmp 6) 23 23 9 _ w.heap.size 1 16 rfl Try.underlying23 infoT rfl (.slice (some ⟨w.heap.size, 0, none⟩) 0 0) (.slice (some ad) xs.length c) 0 xs.length [] (cellsB xs) rfl rfl (own_zero w _) HS.out hm1 hm2 (by simp) ?_; intro v1 w9 hown hgr; have HO5 := Lib.hid hown; have HG5 := Lib.hid hgr; clear hown hgr)
  go_ret
  refine ⟨v1, rfl, ?_, ?_⟩
  · have h := HO5.out
    rw [Nat.zero_add, List.nil_append] at h
    exact h
  · exact ((Below.refl _ _).alloc (Nat.le_refl _) _).grown HG5.out (by simp) (fun k hk => by have : w.heap.size = k := Option.some.inj hk; omega)
theorem ack_good {md : Nat} {X : List UInt8} (h : goodAck md X) : X.length = 2 ∧ X.getD 0 0 = 65 ∧ (X.getD 1 0).toNat < md := h
set_option maxRecDepth 100000 in
set_option maxHeartbeats 2000000 in
theorem ack_bad (g md : Nat) (hm : md = 8 ∨ md = 16) (base due : Int) (v : Value) (t : ByteArray) (ht : t.size ≤ 140737488351232) (w : World) (hg : Blk w g #[.int .i64 (md : Int), .int .i64 base, v, .int .i64 due] 110) (hb : (openS t.data.toList).2 ≠ 0 ∨ ¬ goodAck md (openS t.data.toList).1) :
    Calls Try.prog 20 #[.pointer (some ⟨g, 0, none⟩), .string t] w fun e w' => e = .returned (.int .i64 (if (openS t.data.toList).2 ≠ 0 then (openS t.data.toList).2 else 3)) ∧ Below w.heap.size w w' := by
  have HO : Hid (∀ W : World, Calls Try.prog 63 #[.string t] W fun e w' => e = .returned (.tuple #[.string (bs (openS t.data.toList).1), .int .i64 (openS t.data.toList).2]) ∧ Below W.heap.size W w') := fun W => open_any t ht W
  have HG := Lib.hid hg
  clear hg
  by_cases he : (openS t.data.toList).2 ≠ 0
  · rw [if_pos he]
    generalize bs (openS t.data.toList).1 = x at HO
    generalize (openS t.data.toList).2 = e at HO he ⊢
    have q : (e != 0) = true := by simpa using he
    clear he hb
    go_enter Try.func20, Try.ntmps20
    go_wp2_with (go_at_call 63; ((with_reducible refine (HO.out _).mono ?_)); rintro e w1 ⟨rfl, hb⟩; have HB := Lib.hid hb; clear hb)
    go_ret
    exact ⟨rfl, HB.out⟩
  rw [if_neg he]
  have hng : ¬ goodAck md (openS t.data.toList).1 := hb.resolve_left he
  rw [show (openS t.data.toList).2 = 0 from Decidable.not_not.1 he] at HO
  clear he hb
  generalize (openS t.data.toList).1 = X at HO hng
  have hsz : (bs X).size = X.length := rfl
  have h0 : ∀ h : 0 < (bs X).size, (bs X)[0] = X.getD 0 0 := bs_get X 0
  have h1 : ∀ h : 1 < (bs X).size, (bs X)[1] = X.getD 1 0 := bs_get X 1
  generalize bs X = x at HO hsz h0 h1
  have HSZ := Lib.hid hsz
  have H0 := Lib.hid h0
  have H1 := Lib.hid h1
  clear hsz h0 h1
  by_cases c1 : x.size = 2
  · have q1 : ((x.size : Int) != 2) = false := by rw [bne_eq_false_iff_eq]; omega
    have l0 : 0 < x.size := by omega
    have l1 : 1 < x.size := by omega
    have l1' : (1 : Int) < x.size := by omega
    have hwb : wrap64 (x[1].toNat : Int) = (x[1].toNat : Int) := byte64 _
    have C1 := Lib.hid c1
    clear c1
    by_cases c3 : X.getD 0 0 = 65
    · have q3 : ((x[0].toNat : Int) != 65) = false := by rw [H0.out l0, c3]; rfl
      have c4 : md ≤ (X.getD 1 0).toNat := by
        rcases Nat.lt_or_ge (X.getD 1 0).toNat md with h | h
        · exact absurd ⟨by rw [← HSZ.out]; exact C1.out, c3, h⟩ hng
        · exact h
      have q4 : decide (md ≤ x[1].toNat) = true := decide_eq_true (by rw [H1.out l1]; omega)
      clear hng c3 c4
      go_enter Try.func20, Try.ntmps20
      go_wp2_with (go_at_call 63; ((with_reducible refine (HO.out _).mono ?_)); rintro e w1 ⟨rfl, hb⟩; have HB := Lib.hid hb; have hc0 := (blk_below hb HG.out).cell 0 rfl; clear hb)
      go_quiet (fail)
      go_wp2
      go_ret
      exact ⟨rfl, below_drewN HB.out _⟩
    · have q3 : ((x[0].toNat : Int) != 65) = true := by
        rw [H0.out l0, bne_iff_ne]; intro h; apply c3; apply UInt8.toNat_inj.1; show (X.getD 0 0).toNat = 65; omega
      clear hng c3
      go_enter Try.func20, Try.ntmps20
      go_wp2_with (go_at_call 63; ((with_reducible refine (HO.out _).mono ?_)); rintro e w1 ⟨rfl, hb⟩; have HB := Lib.hid hb; clear hb)
      go_quiet (fail)
      go_wp2
      go_ret
      exact ⟨rfl, below_drewN HB.out _⟩
  · have q1 : ((x.size : Int) != 2) = true := by rw [bne_iff_ne]; omega
    clear hng c1
    go_enter Try.func20, Try.ntmps20
    go_wp2_with (go_at_call 63; ((with_reducible refine (HO.out _).mono ?_)); rintro e w1 ⟨rfl, hb⟩; have HB := Lib.hid hb; clear hb)
    go_quiet (fail)
    go_wp2
    go_ret
    exact ⟨rfl, below_drewN HB.out _⟩
set_option maxRecDepth 100000 in
set_option maxHeartbeats 2000000 in
theorem ack_old (B g md : Nat) (v : Value) (s : Snd) (hs : SndOK md s) (t : ByteArray) (ht : t.size ≤ 140737488351232) (w : World) (h : SAt w B g md v s) (he : (openS t.data.toList).2 = 0) (hgd : goodAck md (openS t.data.toList).1) (hn : ackN md s.got ((openS t.data.toList).1.getD 1 0).toNat = 0 ∨ s.all.length - s.got < ackN md s.got ((openS t.data.toList).1.getD 1 0).toNat) :
    Calls Try.prog 20 #[.pointer (some ⟨g, 0, none⟩), .string t] w fun e w' => e = .returned (.int .i64 13) ∧ Below w.heap.size w w' := by
  have HO : Hid (∀ W : World, Calls Try.prog 63 #[.string t] W fun e w' => e = .returned (.tuple #[.string (bs (openS t.data.toList).1), .int .i64 (openS t.data.toList).2]) ∧ Below W.heap.size W w') := fun W => open_any t ht W
  rw [he] at HO
  obtain ⟨A, c, rfl, _, _⟩ := h.2.slice
  have HG := Lib.hid h.1
  have hl : Hid ((s.all.drop s.got).length = s.all.length - s.got) := List.length_drop
  rw [hl.out] at HG
  clear he h
  generalize (openS t.data.toList).1 = X at HO hgd hn
  obtain ⟨g1, g2, g3⟩ := ack_good hgd
  have hsz : (bs X).size = X.length := rfl
  have h0 : ∀ h : 0 < (bs X).size, (bs X)[0] = X.getD 0 0 := bs_get X 0
  have h1 : ∀ h : 1 < (bs X).size, (bs X)[1] = X.getD 1 0 := bs_get X 1
  generalize bs X = x at HO hsz h0 h1
  have l0 : 0 < x.size := by omega
  have l1 : 1 < x.size := by omega
  have l1' : (1 : Int) < x.size := by omega
  have hwb : wrap64 (x[1].toNat : Int) = (x[1].toNat : Int) := byte64 _
  have q1 : ((x.size : Int) != 2) = false := by rw [bne_eq_false_iff_eq]; omega
  have q3 : ((x[0].toNat : Int) != 65) = false := by rw [h0 l0, g2]; rfl
  have q4 : decide (md ≤ x[1].toNat) = false := decide_eq_false (by rw [h1 l1]; omega)
  have e1 : x[1].toNat = (X.getD 1 0).toNat := by rw [h1 l1]
  have hmo := hs.mo
  have hwd := hs.wd
  have hblt : s.got % md < md := Nat.mod_lt _ (by omega)
  have HN : Hid ((ackN md s.got (X.getD 1 0).toNat : Int) = Int.tmod ((x[1].toNat : Int) - ((s.got % md : Nat) : Int) + (md : Int)) (md : Int)) := by
    show _ = _
    rw [Int.tmod_eq_emod_of_nonneg (by omega), e1]
    unfold ackN
    rw [Int.natCast_emod, show (((X.getD 1 0).toNat + md - s.got % md : Nat) : Int) = ((X.getD 1 0).toNat : Int) - ((s.got % md : Nat) : Int) + (md : Int) by omega]
  have hnl := ackN_lt hmo s.got (X.getD 1 0).toNat
  have hx1 : x[1].toNat < md := by omega
  clear hsz h0 h1 g1 g2 g3 hgd e1
  generalize ackN md s.got (X.getD 1 0).toNat = n at HN hn hnl
  generalize s.got % md = bse at HG HN hblt
  generalize s.all.length - s.got = len at HG hn hwd hl
  go_enter Try.func20, Try.ntmps20
  go_wp2_with (go_at_call 63; ((with_reducible refine (HO.out _).mono ?_)); rintro e w1 ⟨rfl, hb⟩; have HB := Lib.hid hb; have hc0 := (blk_below hb HG.out).cell 0 rfl; have hc1 := (blk_below hb HG.out).cell 1 rfl; have hc2 := (blk_below hb HG.out).cell 2 rfl; clear hb)
  go_quiet (fail)
  go_wp2
  have hw4 : ((md : Int) == 0) = false := by rw [beq_eq_false_iff_ne]; omega
  have hwA : IntKind.i64.wrap ((x[1].toNat : Int) - (bse : Int)) = (x[1].toNat : Int) - (bse : Int) := by rw [IntKind.wrap_i64]; omega
  have hwB : Hid (IntKind.i64.wrap ((x[1].toNat : Int) - (bse : Int) + (md : Int)) = (x[1].toNat : Int) - (bse : Int) + (md : Int)) := by clear hwA; show _ = _; rw [IntKind.wrap_i64]; omega
  have hwB := hwB.out
  have hwC := HN.out.symm
  go_quiet (fail)
  clear hwA hwB hwC
  by_cases hn0 : n = 0
  · have q0 : ((n : Int) == 0) = true := by rw [beq_iff_eq]; omega
    have q0' : (n == 0) = true := by rw [beq_iff_eq]; omega
    go_wp2
    go_ret
    exact ⟨rfl, below_drewN HB.out _⟩
  · have q0 : ((n : Int) == 0) = false := by rw [beq_eq_false_iff_ne]; omega
    have q0' : (n == 0) = false := by rw [beq_eq_false_iff_ne]; omega
    have hn2 : len < n := hn.resolve_left hn0
    clear hn
    go_wp2
    go_ret
    exact ⟨rfl, below_drewN HB.out _⟩
attribute [local go_sem] min_ints max_ints
set_option maxRecDepth 100000 in
set_option maxHeartbeats 4000000 in
theorem ack_ok (B g md : Nat) (v : Value) (s : Snd) (hs : SndOK md s) (t : ByteArray) (ht : t.size ≤ 140737488351232) (w : World) (h : SAt w B g md v s) (hB : B ≤ w.heap.size) (he : (openS t.data.toList).2 = 0) (hgd : goodAck md (openS t.data.toList).1) (hn : ¬ (ackN md s.got ((openS t.data.toList).1.getD 1 0).toNat = 0 ∨ s.all.length - s.got < ackN md s.got ((openS t.data.toList).1.getD 1 0).toNat)) :
    Calls Try.prog 20 #[.pointer (some ⟨g, 0, none⟩), .string t] w fun e w' => e = .returned (.int .i64 0) ∧ ∃ v', SAt w' B g md v' ⟨s.all, s.got + ackN md s.got ((openS t.data.toList).1.getD 1 0).toNat, max s.sent (s.got + ackN md s.got ((openS t.data.toList).1.getD 1 0).toNat)⟩ ∧ Fr (· = g) w w' ∧ (v'.ownBlock = none ∨ ∃ k, v'.ownBlock = some k ∧ w.heap.size ≤ k) := by
  have HO : Hid (∀ W : World, Calls Try.prog 63 #[.string t] W fun e w' => e = .returned (.tuple #[.string (bs (openS t.data.toList).1), .int .i64 (openS t.data.toList).2]) ∧ Below W.heap.size W w') := fun W => open_any t ht W
  rw [he] at HO
  obtain ⟨A, c, rfl, hcc1, hcc2⟩ := h.2.slice
  have HG := Lib.hid h.1
  have HOW := Lib.hid h.2
  have hgw : Hid (g < w.heap.size) := h.1.lt
  have hl : Hid ((s.all.drop s.got).length = s.all.length - s.got) := List.length_drop
  clear he h
  generalize (openS t.data.toList).1 = X at HO hgd hn ⊢
  obtain ⟨g1, g2, g3⟩ := ack_good hgd
  have hsz : (bs X).size = X.length := rfl
  have h0 : ∀ h : 0 < (bs X).size, (bs X)[0] = X.getD 0 0 := bs_get X 0
  have h1 : ∀ h : 1 < (bs X).size, (bs X)[1] = X.getD 1 0 := bs_get X 1
  generalize bs X = x at HO hsz h0 h1
  have l0 : 0 < x.size := by omega
  have l1 : 1 < x.size := by omega
  have l1' : (1 : Int) < x.size := by omega
  have hwb : wrap64 (x[1].toNat : Int) = (x[1].toNat : Int) := byte64 _
  have q1 : ((x.size : Int) != 2) = false := by rw [bne_eq_false_iff_eq]; omega
  have q3 : ((x[0].toNat : Int) != 65) = false := by rw [h0 l0, g2]; rfl
  have q4 : decide (md ≤ x[1].toNat) = false := decide_eq_false (by rw [h1 l1]; omega)
  have e1 : x[1].toNat = (X.getD 1 0).toNat := by rw [h1 l1]
  have hmo := hs.mo
  have hwd := hs.wd
  have hgs := hs.gs
  have hsl := hs.sl
  have hblt : s.got % md < md := Nat.mod_lt _ (by omega)
  have HN : Hid ((ackN md s.got (X.getD 1 0).toNat : Int) = Int.tmod ((x[1].toNat : Int) - ((s.got % md : Nat) : Int) + (md : Int)) (md : Int)) := by
    show _ = _
    rw [Int.tmod_eq_emod_of_nonneg (by omega), e1]
    unfold ackN
    rw [Int.natCast_emod, show (((X.getD 1 0).toNat + md - s.got % md : Nat) : Int) = ((X.getD 1 0).toNat : Int) - ((s.got % md : Nat) : Int) + (md : Int) by omega]
  have hnl := ackN_lt hmo s.got (X.getD 1 0).toNat
  have hx1 : x[1].toNat < md := by omega
  have HBS : Hid (((s.got + ackN md s.got (X.getD 1 0).toNat) % md : Nat) = x[1].toNat) := by
    show _ = _
    rw [e1]; exact ackN_base hmo _ _ (by omega)
  clear hsz h0 h1 g1 g2 g3 hgd e1
  generalize ackN md s.got (X.getD 1 0).toNat = n at HN hn hnl HBS ⊢
  obtain ⟨hn1, hn2⟩ : n ≠ 0 ∧ n ≤ s.all.length - s.got := ⟨fun h => hn (.inl h), by omega⟩
  clear hn
  have hdd : Hid ((s.all.drop s.got).drop n = s.all.drop (s.got + n)) := List.drop_drop
  generalize hbq : s.got % md = bse at HG HN hblt
  generalize hds : s.all.drop s.got = ds at *
  have hdl : ds.length = s.all.length - s.got := hl.out
  have hd16 : ds.length ≤ 16 := by omega
  have hnd : n ≤ ds.length := by omega
  have hxsl : Hid ((s.all.drop (s.got + n)).length = ds.length - n) := by show _ = _; rw [List.length_drop]; omega
  have HDU : Hid (((max s.sent (s.got + n) - (s.got + n) : Nat) : Int) = max 0 (((s.sent - s.got : Nat) : Int) - (n : Int))) := by show _ = _; omega
  have hdu0 : s.sent - s.got ≤ 1000000 ∨ True := .inr trivial
  generalize hdue : s.sent - s.got = due at HG HDU
  have hdu1 : due ≤ 16 := by omega
  clear hdue hdu0 hbq hdl hl hwd hgs hsl
  obtain ⟨hh, o, c', hv, hhB, hcc, hcm⟩ := ownB_some HOW.out (by omega)
  injection hv with hv1 hv2 hv3
  subst hv1
  subst hv3
  have HSL : Hid (∀ (W : World) (ad : Addr) (cq : Nat), Below w.heap.size w W → (n < ds.length → ad = ⟨hh, o + n, none⟩) → Calls Try.prog 64 #[.slice (some ad) (ds.length - n) cq] W fun e w' => ∃ v', e = .returned v' ∧ OwnAt w' W.heap.size 9 1 v' (ds.length - n) (cellsB (s.all.drop (s.got + n))) ∧ Below W.heap.size W w') := by
    intro W ad cq hW had
    have h := clone_any B ad cq (s.all.drop (s.got + n)) W (by rw [hxsl.out]; omega) (fun j u hu => by
      have hlt : n < ds.length := by
        have := (List.getElem?_eq_some_iff.1 hu).1
        rw [cellsB_len, hxsl.out] at this; omega
      rw [had hlt]
      have hd := (HOW.out.drop n hnd).below hW
      have e : (cellsB ds).drop (n * 1) = cellsB (s.all.drop (s.got + n)) := by rw [← hdd.out, Nat.mul_one]; simp [cellsB]
      rw [e, Nat.mul_one] at hd
      exact hd.cells j u hu)
    rw [hxsl.out] at h
    exact h
  go_enter Try.func20, Try.ntmps20
  go_wp2_with (go_at_call 63; ((with_reducible refine (HO.out _).mono ?_)); rintro e w1 ⟨rfl, hb⟩; have HB := Lib.hid hb; have HG1 := Lib.hid (blk_below hb HG.out); have hc0 := (blk_below hb HG.out).cell 0 rfl; have hc1 := (blk_below hb HG.out).cell 1 rfl; have hc2 := (blk_below hb HG.out).cell 2 rfl; clear hb)
  go_quiet (fail)
  go_wp2
  have hw4 : ((md : Int) == 0) = false := by rw [beq_eq_false_iff_ne]; omega
  have hwA : IntKind.i64.wrap ((x[1].toNat : Int) - (bse : Int)) = (x[1].toNat : Int) - (bse : Int) := by rw [IntKind.wrap_i64]; omega
  have hwB : Hid (IntKind.i64.wrap ((x[1].toNat : Int) - (bse : Int) + (md : Int)) = (x[1].toNat : Int) - (bse : Int) + (md : Int)) := by clear hwA; show _ = _; rw [IntKind.wrap_i64]; omega
  have hwB := hwB.out
  have hwC := HN.out.symm
  go_quiet (fail)
  clear hwA hwB hwC
  have q0 : ((n : Int) == 0) = false := by rw [beq_eq_false_iff_ne]; omega
  have q0' : (n == 0) = false := by rw [beq_eq_false_iff_ne]; omega
  go_upto_region 9 with (fail)
  generalize hW : World.drewN w1 _ = W0
  have HB0 : Hid (Below w.heap.size w W0) := hW ▸ below_drewN HB.out _
  have HG0 : Hid (Blk W0 g #[.int .i64 (md : Int), .int .i64 (bse : Int), .slice (some ⟨hh, o, none⟩) ds.length c, .int .i64 (due : Int)] 110) := hW ▸ HG1.out.drewN _
  clear hc0 hc1 hc2 HB HG1 hW
  have m2 := HG0.out.cell 2 rfl
  have hi0 : (0 : Int) ≤ (n : Int) := by omega
  have hi1 : (n : Int) ≤ (ds.length : Int) := by omega
  have hcm' : c ≤ 9223372036854775807 := by unfold maxLen at hcc2; omega
  by_cases hce : c = n
  all_goals
    first
    | (have hq1 : (c = n) = True := eq_true hce
       have HCL := Lib.hid (HSL.out W0 ⟨hh, o, none⟩ (c - n) HB0.out (fun h => by omega)))
    | (have hq1 : (c = n) = False := eq_false hce
       have HCL := Lib.hid (HSL.out W0 ⟨hh, o + n, none⟩ (c - n) HB0.out (fun _ => rfl)))
    clear hce
    go_wp2_with (go_at_call 64; ((with_reducible refine HCL.out.mono ?_)); rintro e w2 ⟨v2, rfl, ho2, hb2⟩; obtain ⟨A2, c2, hv2, _, _⟩ := ho2.slice; subst hv2; have HO2 := Lib.hid ho2; have HB2 := Lib.hid hb2; have HG2 := Lib.hid (blk_below hb2 HG0.out); have m9 := HG2.out.cell 2 rfl; have f9 := HG2.out.free 2; have m8 := HG2.out.cell 1 rfl; have f8 := HG2.out.free 1; have m7 := HG2.out.cell 3 rfl; have f7 := HG2.out.free 3; clear ho2 hb2)
    go_ret
    have hszz := HB0.out.size
    refine ⟨rfl, .slice A2 (ds.length - n) c2, ⟨?_, ?_⟩, ?_, ?_⟩
    · have h := ((HG2.out.set 2 (.slice A2 (ds.length - n) c2)).set 1 (.int .i64 (x[1].toNat : Int))).set 3 (.int .i64 (max 0 ((due : Int) - (n : Int))))
      show Blk _ g #[.int .i64 (md : Int), .int .i64 (((s.got + n) % md : Nat) : Int), .slice A2 (ds.length - n) c2, .int .i64 ((max s.sent (s.got + n) - (s.got + n) : Nat) : Int)] _
      rw [HBS.out, HDU.out]
      exact h
    · have h := HO2.out.lower (base' := B) (by omega)
      show OwnAt _ _ _ _ _ (s.all.drop (s.got + n)).length (cellsB (s.all.drop (s.got + n)))
      rw [hxsl.out]
      have hne := h.ne (T := 110) HG2.out (by decide)
      exact ((h.setCell hne _).setCell hne _).setCell hne _
    · exact (((Fr.of_below (below_then HB0.out hszz HB2.out)).set1 2 _).set1 1 _).set1 3 _
    · have hb := HO2.out.base_le
      cases hq : (Value.slice A2 (ds.length - n) c2).ownBlock with
      | none => exact .inl rfl
      | some k => exact .inr ⟨k, rfl, Nat.le_trans hszz (hb k hq)⟩
end Go.Proofs.Ytfeddgeihpfjfab
