/- The law SlideSends, walked. -/
import Derived.Test.YtfeddgeihpfjfabSend5
import Derived.Test.YtfeddgeihpfjfabPick
import Derived.Test.YtfeddgeihpfjfabAt
set_option linter.unusedSimpArgs false
set_option linter.unusedVariables false
namespace Go.Proofs.Ytfeddgeihpfjfab
open Go.RowKit Crc Go.Proofs.YtfeddgeihpfjfabW.PrintWords
attribute [local go_sem] min_ints max_ints

theorem snd_start (W : World) (B : Nat) (md : Nat) (hB : B ≤ W.heap.size) : SAt (W.alloc (.cells #[.int .i64 (md : Int), .int .i64 0, .slice none 0 0, .int .i64 0] 110)) B W.heap.size md (.slice none 0 0) ⟨[], 0, 0⟩ := by
  refine ⟨?_, rfl, .inl ⟨rfl, rfl⟩⟩
  have h := Blk.new W #[.int .i64 (md : Int), .int .i64 0, .slice none 0 0, .int .i64 0] 110
  show Blk _ _ #[.int .i64 (md : Int), .int .i64 ((0 % md : Nat) : Int), .slice none 0 0, .int .i64 ((0 - 0 : Nat) : Int)] _
  rw [Nat.zero_mod]; exact h
theorem snd_startM (W : World) (B : Nat) (md : Nat) (hB : B ≤ W.heap.size) : MAt (W.alloc (.cells #[.int .i64 (md : Int), .slice none 0 0, .int .i64 0, .int .i64 0] 32)) B W.heap.size md (.slice none 0 0) ⟨[], 0, 0⟩ :=
  ⟨Blk.new W _ _, rfl, .inl ⟨rfl, rfl⟩⟩
theorem snd_ok0 {md : Nat} (h : md = 8 ∨ md = 16) : SndOK md ⟨[], 0, 0⟩ := ⟨h, Nat.le_refl _, Nat.le_refl _, Nat.zero_le _, fun b hb => absurd hb (by simp)⟩
set_option maxRecDepth 100000 in
set_option maxHeartbeats 4000000 in
theorem sends_law (w : World) (mod : Int) (hmod : I64 mod) (A : Option Addr) (cap : Nat) (ls : List (List Int)) (hl : Rows2 w.heap.size w A ls) (hcap : ls.length ≤ cap) (hcm : cap ≤ maxLen)
    (A2 : Option Addr) (cap2 : Nat) (ts : List ByteArray) (ht : Strs w.heap.size w A2 ts) (hcap2 : ts.length ≤ cap2) (hcm2 : cap2 ≤ maxLen) :
    Calls Try.prog 3 #[.int .i64 mod, .slice A ls.length cap, .slice A2 ts.length cap2] w fun e w' => e = .returned (.bool true) ∧ Below w.heap.size w w' := by
  have HL := Lib.hid hl
  have HTX := Lib.hid ht
  have hlen := hl.1
  clear hl ht hmod hcm hcm2 hcap2
  have HN8 : Hid (∀ W : World, Calls Try.prog 10 #[.int .i64 8] W fun e w' => e = .returned (.tuple #[.pointer (some ⟨W.heap.size, 0, none⟩), .int .i64 0]) ∧ w' = W.alloc (.cells #[.int .i64 8, .int .i64 0, .slice none 0 0, .int .i64 0] 110)) := fun W => newsend_ok 8 rfl W
  have HP8 : Hid (Calls Try.prog 11 #[.pointer (some ⟨w.heap.size, 0, none⟩), .string ⟨#[120]⟩] (w.alloc (.cells #[.int .i64 8, .int .i64 0, .slice none 0 0, .int .i64 0] 110)) fun e w' => e = .returned (.int .i64 0) ∧ (∃ v', SAt w' w.heap.size w.heap.size 8 v' ⟨[⟨#[120]⟩], 0, 0⟩) ∧ Below w.heap.size w w') := by
    refine (put_any w.heap.size w.heap.size 8 _ ⟨[], 0, 0⟩ (snd_ok0 (.inl rfl)) ⟨#[120]⟩ _ (snd_start w w.heap.size 8 (Nat.le_refl _)) (by simp)).mono fun e w' ⟨h1, v', h2, h3, _⟩ => ⟨h1, ⟨v', h2⟩, ?_⟩
    exact below_fr ((Below.refl _ _).alloc (Nat.le_refl _) _) h3 (by simp) (fun k hk => hk.elim (fun e => by omega) (fun e => by simp [Value.ownBlock] at e))
  by_cases hm : mod = 8 ∨ mod = 16
  · obtain ⟨md, hmd, hk⟩ : ∃ md : Nat, mod = (md : Int) ∧ (md = 8 ∨ md = 16) := by
      rcases hm with h | h
      · exact ⟨8, h, .inl rfl⟩
      · exact ⟨16, h, .inr rfl⟩
    clear hm
    subst hmd
    have HN : Hid (∀ W : World, Calls Try.prog 10 #[.int .i64 (md : Int)] W fun e w' => e = .returned (.tuple #[.pointer (some ⟨W.heap.size, 0, none⟩), .int .i64 0]) ∧ w' = W.alloc (.cells #[.int .i64 (md : Int), .int .i64 0, .slice none 0 0, .int .i64 0] 110)) := fun W => newsend_ok (md : Int) (by rcases hk with rfl | rfl <;> rfl) W
    have q16 : (((md : Int) != 8) = false) ∨ (((md : Int) != 8) = true ∧ ((md : Int) != 16) = false) := by
      rcases hk with rfl | rfl
      · exact .inl rfl
      · exact .inr ⟨rfl, rfl⟩
    have HM := Lib.hid hk
    clear hk
    rcases q16 with q1 | ⟨q1, q2⟩
    all_goals
      go_enter Try.func3, Try.ntmps3
      go_wp2_with (first
        | (go_at_call 10; ((with_reducible refine (HN8.out _).mono ?_)); rintro e w1 ⟨rfl, rfl⟩)
        | (go_at_call 11; ((with_reducible refine HP8.out.mono ?_)); rintro e w2 ⟨rfl, ⟨v2, ht2⟩, hb2⟩; have HL2 := Lib.hid (left_any _ _ _ _ _ _ ht2); have HB2 := Lib.hid hb2; clear hb2 ht2)
        | (go_at_call 12; ((with_reducible refine HL2.out.mono ?_)); rintro e w3 ⟨rfl, rfl⟩)
        | (go_at_call 10; ((with_reducible refine (HN.out _).mono ?_)); rintro e w1 ⟨rfl, rfl⟩))
      generalize hN : (min (ls.length : Int) 100) = N
      have hN1 : N ≤ ls.length := by omega
      have hN0 : 0 ≤ N := by omega
      have hN2 : N ≤ 100 := by omega
      clear hN
      obtain ⟨n, rfl⟩ := Int.eq_ofNat_of_zero_le hN0
      have hn : n ≤ ls.length := by omega
      have hn100 : n ≤ 100 := by omega
      clear hN0 hN1 hN2
      try simp only [Int.toNat_natCast]
      rw [show max (n : Int) 0 = n from by omega]
      have HST : Hid (SLI w.heap.size w ((w2.alloc (.cells #[.int .i64 (md : Int), .int .i64 0, .slice none 0 0, .int .i64 0] 110)).alloc (.cells #[.int .i64 (md : Int), .slice none 0 0, .int .i64 0, .int .i64 0] 32)) w2.heap.size (w2.heap.size + 1) md (.slice none 0 0) (.slice none 0 0) ⟨[], 0, 0⟩) := by
        have hs := HB2.out.size
        have hS := snd_start w2 w.heap.size md hs
        refine ⟨((HB2.out.alloc hs _).alloc (by simp; omega) _), by simp; omega, hs, by omega, ⟨hS.1.alloc _, hS.2.alloc _⟩, ?_, fun k hk => by simp [Value.ownBlock] at hk, snd_ok0 HM.out⟩
        have h := snd_startM (w2.alloc (.cells #[.int .i64 (md : Int), .int .i64 0, .slice none 0 0, .int .i64 0] 110)) w.heap.size md (by simp; omega)
        simp only [World.size_alloc] at h
        exact h
      clear HN HN8 HP8 HL2
      generalize (w2.alloc (.cells #[.int .i64 (md : Int), .int .i64 0, .slice none 0 0, .int .i64 0] 110)).alloc (.cells #[.int .i64 (md : Int), .slice none 0 0, .int .i64 0, .int .i64 0] 32) = W3 at HST ⊢
      generalize hgT : w2.heap.size = gT at HST ⊢
      clear hgT
      generalize hB : w.heap.size = B at *
      have hB1 := Lib.hid hB
      clear hB HB2
      go_loopw [68] (fun i W => ∃ (k : Nat) (vS vM : Value) (s : Snd), k ≤ n ∧ i = .int .i64 k ∧ s.all.length ≤ k ∧ SLI B w W gT (gT + 1) md vS vM s) (fun i _ => n - (intOf i).toNat)
      case atStart => exact ⟨0, _, _, _, by omega, rfl, Nat.le_refl _, HST.out⟩
      case round =>
        clear HST
        obtain ⟨k, vS, vM, s, hk, rfl, hsk, hsi⟩ := hrel
        by_cases hlt : k < n
        · obtain ⟨ad, rfl, hadB, hrow⟩ := (HL.out.below hsi.below).2 (by omega)
          obtain ⟨A', c0, hcell, hints⟩ := hrow k (by omega)
          clear hrow
          generalize hxs : ls.getD k [] = xs at hcell hints
          clear hxs
          have HAT : Hid (∀ (i : Int) (j : Nat) (W : World), i = j → j < 1000 → Below B wr W → Calls Try.prog 14 #[.slice A' xs.length c0, .int .i64 i] W fun e w' => e = .returned (.int .i64 (xs.getD j 0)) ∧ W = w') := fun i j W h1 h2 h3 => at_any (B := B) A' xs c0 i j h1 h2 W (hints.below h3)
          clear hints
          have A0 : Hid (∀ W : World, Below B wr W → Calls Try.prog 14 #[.slice A' xs.length c0, .int .i64 0] W fun e w' => e = .returned (.int .i64 (xs.getD 0 0)) ∧ W = w') := fun W h => HAT.out 0 0 W rfl (by omega) h
          have A1 : Hid (∀ W : World, Below B wr W → Calls Try.prog 14 #[.slice A' xs.length c0, .int .i64 1] W fun e w' => e = .returned (.int .i64 (xs.getD 1 0)) ∧ W = w') := fun W h => HAT.out 1 1 W rfl (by omega) h
          generalize xs.getD 0 0 = op at A0
          generalize xs.getD 1 0 = a1 at A1
          have HP : Hid (Calls Try.prog 13 #[.slice A2 ts.length cap2, .int .i64 a1] wr (SomeText 2000 wr)) := pick_any (B := B) A2 ts cap2 a1 wr (HTX.out.below hsi.below)
          have HSI := Lib.hid hsi
          clear hsi HAT
          go_upto_block 2 with (first
            | (go_at_call 14; ((with_reducible refine (A1.out _ (Below.refl _ _)).mono ?_)); rintro e1 w1 ⟨rfl, rfl⟩)
            | (go_at_call 13; ((with_reducible refine HP.out.mono ?_)); rintro e1 w1 ⟨x, hx, rfl, rfl⟩)
            | (go_at_call 14; ((with_reducible refine (A0.out _ (Below.refl _ _)).mono ?_)); rintro e1 w1 ⟨rfl, rfl⟩))
          go_cut [] (fun W => ∃ (vS' vM' : Value) (s' : Snd), Hid (s'.all.length ≤ k + 1) ∧ Hid (SLI B w W gT (gT + 1) md vS' vM' s'))
          case first =>
            by_cases o0 : op = 0
            · have q0 : (op == 0) = true := by simp [o0]
              have H1 := Lib.hid (put_any B gT md vS s HSI.out.ok x wr HSI.out.tS HSI.out.sz)
              have H2 : Hid (∀ W : World, FrS gT vS wr W → Calls Try.prog 15 #[.pointer (some ⟨gT + 1, 0, none⟩), .string x] W fun e w' => e = .returned (.int .i64 (putS md s x).1) ∧ ∃ v', MAt w' B (gT + 1) md v' (putS md s x).2 ∧ FrS (gT + 1) vM W w' ∧ RowAt W vM v') := fun W h => mput_any B (gT + 1) md vM s HSI.out.ok (by omega) x W (HSI.out.midM h) (by have := h.size; have := HSI.out.sz; omega)
              have HOK := Lib.hid (put_snd_ok HSI.out.ok x)
              have HLN : Hid ((putS md s x).2.all.length ≤ k + 1) := by
                show _ ≤ _
                unfold putS
                split
                · show s.all.length ≤ _; omega
                · split
                  · show s.all.length ≤ _; omega
                  · show (s.all ++ [x]).length ≤ _; simp; omega
              generalize putS md s x = R at H1 H2 HOK HLN
              obtain ⟨code, s'⟩ := R
              simp only at H1 H2 HOK HLN
              clear o0
              go_wp2_with (first
                | (go_at_call 11; ((with_reducible refine H1.out.mono ?_)); rintro e1 w1 ⟨rfl, v1, ht1, hf1, hr1⟩; have HT1 := Lib.hid ht1; have HF1 := Lib.hid hf1; have HR1 := Lib.hid hr1; clear ht1 hf1 hr1)
                | (go_at_call 15; ((with_reducible refine (H2.out _ HF1.out).mono ?_)); rintro e1 w2' ⟨rfl, v2', ht2, hf2, hr2⟩; have HT2 := Lib.hid ht2; have HF2 := Lib.hid hf2; have HR2 := Lib.hid hr2; clear ht2 hf2 hr2))
              go_meet
              exact ⟨v1, v2', s', HLN, HSI.out.next HT1.out HF1.out HR1.out HT2.out HF2.out HR2.out HOK.out⟩
            have q0 : (op == 0) = false := by simp [o0]
            by_cases o1 : op = 1
            · have q1' : (op == 1) = true := by simp [o1]
              have H1 := Lib.hid (out_any B gT md vS s HSI.out.ok (by omega) wr HSI.out.tS)
              have H2 : Hid (∀ W : World, Fr (· = gT) wr W → Calls Try.prog 18 #[.pointer (some ⟨gT + 1, 0, none⟩)] W fun e w' => ∃ v', e = .returned v' ∧ OwnAt w' W.heap.size 9 1 v' (outS md s).length (cellsB (outS md s)) ∧ MAt w' B (gT + 1) md vM ⟨s.all, s.got, s.all.length⟩ ∧ Fr (· = gT + 1) W w') := fun W h => mout_any B (gT + 1) md vM s HSI.out.ok (by omega) W (HSI.out.midM (frS_of h))
              have hol : Hid ((outS md s).length ≤ 1000000) := by
                show _ ≤ _
                unfold outS
                rw [outL_len, List.length_drop]; omega
              have HOK : Hid (SndOK md ⟨s.all, s.got, s.all.length⟩) := ⟨HSI.out.ok.mo, by have := HSI.out.ok.gs; have := HSI.out.ok.sl; show s.got ≤ s.all.length; omega, Nat.le_refl _, HSI.out.ok.wd, HSI.out.ok.bd⟩
              generalize outS md s = os at H1 H2 hol
              clear o0 o1
              go_wp2_with (first
                | (go_at_call 17; ((with_reducible refine H1.out.mono ?_)); rintro e1 w1 ⟨v1, rfl, ho1, ht1, hf1⟩; have HO1 := Lib.hid ho1; have HT1 := Lib.hid ht1; have HF1 := Lib.hid hf1; clear ho1 ht1 hf1)
                | (go_at_call 18; ((with_reducible refine (H2.out _ HF1.out).mono ?_)); rintro e1 w2' ⟨v2', rfl, ho2, ht2, hf2⟩; have HEQ := Lib.hid (eqs_any _ _ _ _ os hol.out _ (HO1.out.fr hf2 (fun k hk e => by subst e; exact (HO1.out.ne (HSI.out.midM (frS_of HF1.out)).1 (by decide)) hk)) ho2); have HT2 := Lib.hid ht2; have HF2 := Lib.hid hf2; clear ho2 ht2 hf2)
                | (go_at_call 16; ((with_reducible refine HEQ.out.mono ?_)); rintro e1 w3' ⟨rfl, ⟨mq, rfl⟩⟩))
              go_meet
              exact ⟨vS, vM, ⟨s.all, s.got, s.all.length⟩, by show s.all.length ≤ _; omega, HSI.out.next HT1.out (frS_of HF1.out) (.inl rfl) (⟨HT2.out.1, HT2.out.2⟩ : MAt _ _ _ _ _ _) ((frS_of HF2.out).drewN _) (.inl rfl) HOK.out⟩
            have q1' : (op == 1) = false := by simp [o1]
            by_cases o2 : op = 2
            · have q2' : (op == 2) = true := by simp [o2]
              have HNB : Hid (∀ W : World, Calls Try.prog 19 #[.string ⟨#[65]⟩, .int .i64 a1, .string ⟨#[]⟩] W fun e w' => e = .returned (.string (bs (sealed (65 :: byteOf a1 :: [])))) ∧ Below W.heap.size W w') := fun W => numbered_any ⟨#[65]⟩ ⟨#[]⟩ 65 rfl a1 (by decide) W
              have hyz : (bs (sealed (65 :: byteOf a1 :: []))).size ≤ 140737488351232 := by
                rw [bs_size, sealed_length]; simp only [List.length_cons, List.length_nil]; omega
              generalize bs (sealed (65 :: byteOf a1 :: [])) = y at HNB hyz
              clear o0 o1 o2
              go_upto_region 23 with (first
                | (go_at_call 14; ((with_reducible refine (A1.out _ (Below.refl _ _)).mono ?_)); rintro e1 w1 ⟨rfl, rfl⟩)
                | (go_at_call 19; ((with_reducible refine (HNB.out _).mono ?_)); rintro e1 wq ⟨rfl, hb1⟩; have HBQ := Lib.hid hb1; clear hb1))
              have HSQ : Hid (SLI B w wq gT (gT + 1) md vS vM s) := by
                have h1 := HBQ.out.size
                have h2 := HSI.out.sz
                exact ⟨below_then HSI.out.below HSI.out.sz HBQ.out, by omega, HSI.out.bS, HSI.out.bM, ⟨blk_below HBQ.out HSI.out.tS.1, HSI.out.tS.2.below HBQ.out⟩, ⟨blk_below HBQ.out HSI.out.tM.1, HSI.out.tM.2.below HBQ.out⟩, HSI.out.apart, HSI.out.ok⟩
              have H1 := Lib.hid (sack_any B gT md vS s HSI.out.ok y hyz wq HSQ.out.tS HSQ.out.sz)
              have H2 : Hid (∀ W : World, FrS gT vS wq W → Calls Try.prog 21 #[.pointer (some ⟨gT + 1, 0, none⟩), .string y] W fun e w' => e = .returned (.int .i64 (ackS md s y.data.toList).1) ∧ MAt w' B (gT + 1) md vM (ackS md s y.data.toList).2 ∧ Fr (· = gT + 1) W w') := fun W h => mack_any B (gT + 1) md vM s HSI.out.ok (by omega) y hyz W (HSQ.out.midM h)
              have HOK := Lib.hid (ack_snd_ok HSI.out.ok y.data.toList)
              have HLN : Hid ((ackS md s y.data.toList).2.all.length ≤ k + 1) := by
                show _ ≤ _
                have e : (ackS md s y.data.toList).2.all = s.all := by
                  unfold ackS
                  split
                  · rfl
                  split
                  · rfl
                  split <;> rfl
                rw [e]; omega
              generalize ackS md s y.data.toList = R at H1 H2 HOK HLN
              obtain ⟨code, s'⟩ := R
              simp only at H1 H2 HOK HLN
              go_wp2_with (first
                | (go_at_call 20; ((with_reducible refine H1.out.mono ?_)); rintro e1 w1 ⟨rfl, v1, ht1, hf1, hr1⟩; have HT1 := Lib.hid ht1; have HF1 := Lib.hid hf1; have HR1 := Lib.hid hr1; clear ht1 hf1 hr1)
                | (go_at_call 21; ((with_reducible refine (H2.out _ HF1.out).mono ?_)); rintro e1 w2' ⟨rfl, ht2, hf2⟩; have HT2 := Lib.hid ht2; have HF2 := Lib.hid hf2; clear ht2 hf2))
              go_meet
              exact ⟨v1, vM, s', HLN, HSQ.out.next HT1.out HF1.out HR1.out HT2.out (frS_of HF2.out) (.inl rfl) HOK.out⟩
            have q2' : (op == 2) = false := by simp [o2]
            by_cases o3 : op = 3
            · have q3' : (op == 3) = true := by simp [o3]
              have hyz : x.size ≤ 140737488351232 := by omega
              have H1 := Lib.hid (sack_any B gT md vS s HSI.out.ok x hyz wr HSI.out.tS HSI.out.sz)
              have H2 : Hid (∀ W : World, FrS gT vS wr W → Calls Try.prog 21 #[.pointer (some ⟨gT + 1, 0, none⟩), .string x] W fun e w' => e = .returned (.int .i64 (ackS md s x.data.toList).1) ∧ MAt w' B (gT + 1) md vM (ackS md s x.data.toList).2 ∧ Fr (· = gT + 1) W w') := fun W h => mack_any B (gT + 1) md vM s HSI.out.ok (by omega) x hyz W (HSI.out.midM h)
              have HOK := Lib.hid (ack_snd_ok HSI.out.ok x.data.toList)
              have HLN : Hid ((ackS md s x.data.toList).2.all.length ≤ k + 1) := by
                show _ ≤ _
                have e : (ackS md s x.data.toList).2.all = s.all := by
                  unfold ackS
                  split
                  · rfl
                  split
                  · rfl
                  split <;> rfl
                rw [e]; omega
              generalize ackS md s x.data.toList = R at H1 H2 HOK HLN
              obtain ⟨code, s'⟩ := R
              simp only at H1 H2 HOK HLN
              clear o0 o1 o2 o3
              go_wp2_with (first
                | (go_at_call 20; ((with_reducible refine H1.out.mono ?_)); rintro e1 w1 ⟨rfl, v1, ht1, hf1, hr1⟩; have HT1 := Lib.hid ht1; have HF1 := Lib.hid hf1; have HR1 := Lib.hid hr1; clear ht1 hf1 hr1)
                | (go_at_call 21; ((with_reducible refine (H2.out _ HF1.out).mono ?_)); rintro e1 w2' ⟨rfl, ht2, hf2⟩; have HT2 := Lib.hid ht2; have HF2 := Lib.hid hf2; clear ht2 hf2))
              go_meet
              exact ⟨v1, vM, s', HLN, HSI.out.next HT1.out HF1.out HR1.out HT2.out (frS_of HF2.out) (.inl rfl) HOK.out⟩
            have q3' : (op == 3) = false := by simp [o3]
            by_cases o4 : op = 4
            · have q4' : (op == 4) = true := by simp [o4]
              have H1 := Lib.hid (again_any B gT md vS s wr HSI.out.tS)
              have H2 : Hid (∀ W : World, FrS gT vS wr W → Calls Try.prog 23 #[.pointer (some ⟨gT + 1, 0, none⟩)] W fun e w' => e = .returned (.tuple #[]) ∧ MAt w' B (gT + 1) md vM ⟨s.all, s.got, s.got⟩ ∧ FrS (gT + 1) vM W w') := fun W h => magain_any B (gT + 1) md vM s W (HSI.out.midM h)
              have HOK : Hid (SndOK md ⟨s.all, s.got, s.got⟩) := ⟨HSI.out.ok.mo, Nat.le_refl _, by have := HSI.out.ok.gs; have := HSI.out.ok.sl; show s.got ≤ s.all.length; omega, HSI.out.ok.wd, HSI.out.ok.bd⟩
              clear o0 o1 o2 o3 o4
              go_wp2_with (first
                | (go_at_call 22; ((with_reducible refine H1.out.mono ?_)); rintro e1 w1 ⟨rfl, ht1, hf1⟩; have HT1 := Lib.hid ht1; have HF1 := Lib.hid hf1; clear ht1 hf1)
                | (go_at_call 23; ((with_reducible refine (H2.out _ HF1.out).mono ?_)); rintro e1 w2' ⟨rfl, ht2, hf2⟩; have HT2 := Lib.hid ht2; have HF2 := Lib.hid hf2; clear ht2 hf2))
              go_meet
              exact ⟨vS, vM, ⟨s.all, s.got, s.got⟩, by show s.all.length ≤ _; omega, HSI.out.next HT1.out HF1.out (.inl rfl) HT2.out HF2.out (.inl rfl) HOK.out⟩
            have q4' : (op == 4) = false := by simp [o4]
            clear o0 o1 o2 o3 o4
            go_wp2
            go_meet
            exact ⟨vS, vM, s, by show s.all.length ≤ _; omega, HSI.out⟩
          case rest =>
            obtain ⟨vS', vM', s', hsl', HS'⟩ := hcut
            have hsl2 := hsl'.out
            have HLF : Hid (∀ m : Nat, Calls Try.prog 12 #[.pointer (some ⟨gT, 0, none⟩)] (wc.drewN m) fun e w' => e = .returned (.int .i64 ((s'.all.length - s'.got : Nat) : Int)) ∧ wc.drewN m = w') := fun m => left_any B gT md vS' s' _ ⟨HS'.out.tS.1.drewN m, HS'.out.tS.2.drewN m⟩
            obtain ⟨AM, cM, hvM, _, _⟩ := HS'.out.tM.2.slice
            have HKM : Hid (Blk wc (gT + 1) #[.int .i64 (md : Int), .slice AM s'.all.length cM, .int .i64 (s'.got : Int), .int .i64 (s'.sent : Int)] 32) := hvM ▸ HS'.out.tM.1
            have m1 := HKM.out.cell 1 rfl
            have m2 := HKM.out.cell 2 rfl
            have hg1 := HS'.out.ok.gs
            have hg2 := HS'.out.ok.sl
            have hw : IntKind.i64.wrap ((s'.all.length : Int) - (s'.got : Int)) = ((s'.all.length - s'.got : Nat) : Int) := by rw [IntKind.wrap_i64]; omega
            have HW := Lib.hid hw
            clear hw HSI HP A0 A1 hcell
            have hd : (s'.all.length : Int) - (s'.got : Int) = ((s'.all.length - s'.got : Nat) : Int) := by omega
            go_wp2_with fail
            have hw := HW.out
            go_quiet ((go_at_call 12; exact quiet_eq (HLF.out _)))
            clear hw
            go_wp2
            go_roundw
            case rel => exact ⟨k + 1, vS', vM', s', by omega, by go_num, hsl'.out, ⟨below_drewN HS'.out.below _, HS'.out.sz, HS'.out.bS, HS'.out.bM, HS'.out.tS, HS'.out.tM, HS'.out.apart, HS'.out.ok⟩⟩
            case measure => simp [intOf]; omega
        · go_wp2
          go_ret
          exact ⟨rfl, hB1.out ▸ hsi.below⟩
  · have q1 : (mod != 8) = true := by rw [bne_iff_ne]; omega
    have q2 : (mod != 16) = true := by rw [bne_iff_ne]; omega
    have HNB : Hid (∀ W : World, Calls Try.prog 10 #[.int .i64 mod] W fun e w' => e = .returned (.tuple #[.pointer none, .int .i64 1]) ∧ W = w') := fun W => newsend_bad mod (by simp only [Bool.or_eq_false_iff, beq_eq_false_iff_ne]; omega) W
    clear hm
    go_enter Try.func3, Try.ntmps3
    go_wp2_with (first
      | (go_at_call 10; ((with_reducible refine (HN8.out _).mono ?_)); rintro e w1 ⟨rfl, rfl⟩)
      | (go_at_call 11; ((with_reducible refine HP8.out.mono ?_)); rintro e w2 ⟨rfl, ⟨v2, ht2⟩, hb2⟩; have HL2 := Lib.hid (left_any _ _ _ _ _ _ ht2); have HB2 := Lib.hid hb2; clear hb2 ht2)
      | (go_at_call 12; ((with_reducible refine HL2.out.mono ?_)); rintro e w3 ⟨rfl, rfl⟩)
      | (go_at_call 10; ((with_reducible refine (HNB.out _).mono ?_)); rintro e w1 ⟨rfl, rfl⟩))
    go_ret
    exact ⟨rfl, HB2.out⟩
end Go.Proofs.Ytfeddgeihpfjfab
