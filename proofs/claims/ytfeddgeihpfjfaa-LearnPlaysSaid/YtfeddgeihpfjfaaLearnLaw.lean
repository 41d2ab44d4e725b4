/- The law LearnPlays, walked. -/
import Derived.Test.YtfeddgeihpfjfaaLearnS
import Derived.Test.YtfeddgeihpfjfaaAt
set_option linter.unusedVariables false
set_option linter.unusedSimpArgs false
namespace Go.Proofs.Ytfeddgeihpfjfaa
open Go.RowKit Go.Proofs.YtfeddgeihpfjfaaW.PrintWords

/-- What holds at the head of a round: both tables keep the same. -/
structure LI (B : Nat) (w0 W : World) (gT gM : Nat) (age room last : Int) (es : List Ent) : Prop where
  below : Below B w0 W
  bT : B ≤ gT
  bM : B ≤ gM
  sz : B ≤ W.heap.size
  tT : Tab W gT 168 170 age room last es
  tM : Tab W gM 98 172 age room last es
  ok : TabOK age room last es
theorem LI.both {B : Nat} {w0 W W1 W2 : World} {gT gM : Nat} {age room last last' last'' : Int} {es es' es'' : List Ent} (h : LI B w0 W gT gM age room last es)
    (tT : Tab W1 gT 168 170 age room last' es') (f1 : Fr (· = gT) W W1) (tM : Tab W2 gM 98 172 age room last'' es'') (f2 : Fr (· = gM) W1 W2) (hl : last' = last'') (he : es' = es'') (hk : TabOK age room last' es') : LI B w0 W2 gT gM age room last' es' := by
  subst hl; subst he
  have s1 := h.sz
  have s2 := h.bT
  have s3 := h.bM
  have s4 := f1.size
  have s5 := f2.size
  exact ⟨below_fr (below_fr h.below f1 s1 (fun k hk => hk ▸ s2)) f2 (by omega) (fun k hk => hk ▸ s3), s2, s3, by omega, tT.far (h.tM.far h.tT f1 (by decide) (by decide)) f2 (by decide) (by decide), tM, hk⟩
theorem LI.midM {B : Nat} {w0 W W1 : World} {gT gM : Nat} {age room last : Int} {es : List Ent} (h : LI B w0 W gT gM age room last es) (f1 : Fr (· = gT) W W1) : Tab W1 gM 98 172 age room last es := h.tM.far h.tT f1 (by decide) (by decide)
attribute [local go_sem] min_ints max_ints
set_option maxRecDepth 100000 in
set_option maxHeartbeats 4000000 in
theorem learn_law (w : World) (age : Int) (_ : I64 age) (room : Int) (_ : I64 room) (A : Option Addr) (cap : Nat) (ls : List (List Int)) (hl : Rows2 w.heap.size w A ls) (hcap : ls.length ≤ cap) (hcm : cap ≤ maxLen) :
    Calls Try.prog 9 #[.int .i64 age, .int .i64 room, .slice A ls.length cap] w fun e w' => e = .returned (.bool true) ∧ Below w.heap.size w w' := by
  have HL := Lib.hid hl
  have hlen := hl.1
  clear hl hcm
  have HN1 : Hid (∀ W : World, Calls Try.prog 56 #[.int .i64 1, .int .i64 1] W fun e w' => e = .returned (.tuple #[.pointer (some ⟨W.heap.size, 0, none⟩), .int .i64 0]) ∧ w' = W.alloc (.cells #[.int .i64 1, .int .i64 1, .int .i64 0, .slice none 0 0] 168)) := fun W => learnNew_ok 1 1 W (by omega) (by omega) (by omega) (by omega)
  have HS1 : Hid (Calls Try.prog 57 #[.pointer (some ⟨w.heap.size, 0, none⟩), .int .i64 5, .int .i64 1, .int .i64 0] (w.alloc (.cells #[.int .i64 1, .int .i64 1, .int .i64 0, .slice none 0 0] 168)) fun e w' => e = .returned (.int .i64 0) ∧ Below w.heap.size w w') := by
    refine (learnSee_any w.heap.size 1 1 0 5 1 0 ⟨by omega, by omega⟩ [] _ (tab_new w _ _ 1 1) (TabOK.nil (by omega) (by omega) (by omega) (by omega))).mono fun e w' ⟨h1, _, h3⟩ => ⟨h1, ?_⟩
    exact below_fr ((Below.refl _ _).alloc (Nat.le_refl _) _) h3 (by simp) (fun k hk => by omega)
  by_cases hok : 1 ≤ age ∧ age ≤ 1000000000 ∧ 1 ≤ room ∧ room ≤ 256
  · obtain ⟨a0, a1, r0, r1⟩ := hok
    have HN2 : Hid (∀ W : World, Calls Try.prog 56 #[.int .i64 age, .int .i64 room] W fun e w' => e = .returned (.tuple #[.pointer (some ⟨W.heap.size, 0, none⟩), .int .i64 0]) ∧ w' = W.alloc (.cells #[.int .i64 age, .int .i64 room, .int .i64 0, .slice none 0 0] 168)) := fun W => learnNew_ok age room W a0 a1 r0 r1
    have HTO : Hid (TabOK age room 0 []) := TabOK.nil a0 a1 r0 r1
    go_enter Try.func9, Try.ntmps9
    go_wp2_with (first
      | (go_at_call 56; ((with_reducible refine (HN1.out _).mono ?_)); rintro e w1 ⟨rfl, rfl⟩)
      | (go_at_call 57; ((with_reducible refine HS1.out.mono ?_)); rintro e w2 ⟨rfl, hb2⟩; have HB2 := Lib.hid hb2; clear hb2)
      | (go_at_call 56; ((with_reducible refine (HN2.out _).mono ?_)); rintro e w1 ⟨rfl, rfl⟩))
    generalize hN : (min (ls.length : Int) 100) = N
    have hN1 : N ≤ ls.length := by omega
    have hN0 : 0 ≤ N := by omega
    have hN2 : N ≤ 100 := by omega
    clear hN
    obtain ⟨n, rfl⟩ := Int.eq_ofNat_of_zero_le hN0
    have hn : n ≤ ls.length := by omega
    have hn100 : n ≤ 100 := by omega
    clear hN0 hN1 hN2
    try simp only [Int.toNat_natCast]
    rw [show max (n : Int) 0 = n from by omega]
    have HST : Hid (LI w.heap.size w ((w2.alloc (.cells #[.int .i64 age, .int .i64 room, .int .i64 0, .slice none 0 0] 168)).alloc (.cells #[.int .i64 age, .int .i64 room, .int .i64 0, .slice none 0 0] 98)) w2.heap.size (w2.heap.size + 1) age room 0 []) := by
      have hs := HB2.out.size
      refine ⟨((HB2.out.alloc hs _).alloc (by simp; omega) _), hs, by omega, by simp; omega, (tab_new w2 _ _ age room).below ((Below.refl _ _).alloc (Nat.le_refl _) _), ?_, HTO.out⟩
      have h := tab_new (w2.alloc (.cells #[.int .i64 age, .int .i64 room, .int .i64 0, .slice none 0 0] 168)) 98 172 age room
      simp only [World.size_alloc] at h
      exact h
    clear HN1 HN2 HS1 HB2 HTO
    generalize (w2.alloc (.cells #[.int .i64 age, .int .i64 room, .int .i64 0, .slice none 0 0] 168)).alloc (.cells #[.int .i64 age, .int .i64 room, .int .i64 0, .slice none 0 0] 98) = W3 at HST ⊢
    generalize hgT : w2.heap.size = gT at HST ⊢
    clear hgT
    generalize hB : w.heap.size = B at *
    have hB1 := Lib.hid hB
    clear hB
    go_loopw [83] (fun i W => ∃ (k : Nat) (last : Int) (es : List Ent), k ≤ n ∧ i = .int .i64 k ∧ LI B w W gT (gT + 1) age room last es) (fun i _ => n - (intOf i).toNat)
    case atStart => exact ⟨0, 0, [], by omega, rfl, HST.out⟩
    case round =>
      clear HST
      obtain ⟨k, last, es, hk, rfl, hli⟩ := hrel
      by_cases hlt : k < n
      · obtain ⟨ad, rfl, hadB, hrow⟩ := (HL.out.below hli.below).2 (by omega)
        obtain ⟨A', c0, hcell, hints⟩ := hrow k (by omega)
        clear hrow
        generalize hxs : ls.getD k [] = xs at hcell hints
        clear hxs
        have hxb : I64 (xs.getD 1 0) := by
          by_cases h : 1 < xs.length
          · have := hints.2.1 xs[1] (List.getElem_mem h)
            rwa [List.getD_eq_getElem?_getD, List.getElem?_eq_getElem h]
          · rw [List.getD_eq_getElem?_getD, List.getElem?_eq_none (by omega)]; show I64 0; exact ⟨by omega, by omega⟩
        have HAT : Hid (∀ (i : Int) (j : Nat) (W : World), i = j → j < 1000 → Below B wr W → Calls Try.prog 18 #[.slice A' xs.length c0, .int .i64 i] W fun e w' => e = .returned (.int .i64 (xs.getD j 0)) ∧ W = w') := fun i j W h1 h2 h3 => at_any (B := B) A' xs c0 i j h1 h2 W (hints.below h3)
        clear hints
        have A0 : Hid (∀ W : World, Below B wr W → Calls Try.prog 18 #[.slice A' xs.length c0, .int .i64 0] W fun e w' => e = .returned (.int .i64 (xs.getD 0 0)) ∧ W = w') := fun W h => HAT.out 0 0 W rfl (by omega) h
        have A1 : Hid (∀ W : World, Below B wr W → Calls Try.prog 18 #[.slice A' xs.length c0, .int .i64 1] W fun e w' => e = .returned (.int .i64 (xs.getD 1 0)) ∧ W = w') := fun W h => HAT.out 1 1 W rfl (by omega) h
        have A2 : Hid (∀ W : World, Below B wr W → Calls Try.prog 18 #[.slice A' xs.length c0, .int .i64 2] W fun e w' => e = .returned (.int .i64 (xs.getD 2 0)) ∧ W = w') := fun W h => HAT.out 2 2 W rfl (by omega) h
        have A3 : Hid (∀ W : World, Below B wr W → Calls Try.prog 18 #[.slice A' xs.length c0, .int .i64 3] W fun e w' => e = .returned (.int .i64 (xs.getD 3 0)) ∧ W = w') := fun W h => HAT.out 3 3 W rfl (by omega) h
        generalize xs.getD 0 0 = op at A0
        generalize xs.getD 1 0 = link at A1 hxb
        generalize xs.getD 2 0 = port at A2
        generalize xs.getD 3 0 = now at A3
        have HSI := Lib.hid hli
        have HXB := Lib.hid hxb
        have HTM := Lib.hid (seenTime_any (gT + 1) age room last now es wr hli.tM)
        have hl256 : Hid (es.length ≤ 256) := by
          have h2 := hli.ok.len
          have h3 := hli.ok.r1
          show _ ≤ _
          omega
        have HBD : Hid (∀ x ∈ es, 0 ≤ x.s ∧ x.s ≤ 1000000000) := fun x hx => by have := hli.ok.bnd x hx; have := hli.ok.t1; omega
        clear hli HAT hxb
        go_upto_block 2 with (first
          | (go_at_call 18; ((with_reducible refine (A1.out _ (Below.refl _ _)).mono ?_)); rintro e1 w1 ⟨rfl, rfl⟩)
          | (go_at_call 18; ((with_reducible refine (A2.out _ (Below.refl _ _)).mono ?_)); rintro e1 w1 ⟨rfl, rfl⟩)
          | (go_at_call 18; ((with_reducible refine (A3.out _ (Below.refl _ _)).mono ?_)); rintro e1 w1 ⟨rfl, rfl⟩)
          | (go_at_call 18; ((with_reducible refine (A0.out _ (Below.refl _ _)).mono ?_)); rintro e1 w1 ⟨rfl, rfl⟩)
          | (go_at_call 58; ((with_reducible refine HTM.out.mono ?_)); rintro e1 w1 ⟨rfl, rfl⟩))
        clear A0 A1 A2 A3 HTM hcell
        by_cases o0 : op = 0
        · have q0 : (op == 0) = true := by simp [o0]
          have H1 := Lib.hid (learnSee_any gT age room last link port now HXB.out es wr HSI.out.tT HSI.out.ok)
          have H2 : Hid (∀ W : World, Fr (· = gT) wr W → Calls Try.prog 59 #[.pointer (some ⟨gT + 1, 0, none⟩), .int .i64 link, .int .i64 port, .int .i64 now] W fun e w' => e = .returned (.int .i64 (seeS age room last es link port now).code) ∧ Tab w' (gT + 1) 98 172 age room (seeS age room last es link port now).last (seeS age room last es link port now).es ∧ Fr (· = gT + 1) W w') := fun W h => seenSee_any (gT + 1) age room last link port now HXB.out es W (HSI.out.midM h) HSI.out.ok
          have HOK := Lib.hid (seeS_ok HSI.out.ok link port now)
          generalize seeS age room last es link port now = S at H1 H2 HOK
          obtain ⟨code, last', es'⟩ := S
          simp only at H1 H2 HOK
          clear o0
          go_wp2_with (first
            | (go_at_call 57; ((with_reducible refine H1.out.mono ?_)); rintro e1 w1 ⟨rfl, ht1, hf1⟩; have HT1 := Lib.hid ht1; have HF1 := Lib.hid hf1; clear ht1 hf1)
            | (go_at_call 59; ((with_reducible refine (H2.out _ HF1.out).mono ?_)); rintro e1 w2 ⟨rfl, ht2, hf2⟩; have HT2 := Lib.hid ht2; have HF2 := Lib.hid hf2; clear ht2 hf2))
          go_roundw
          case rel => exact ⟨k + 1, last', es', by omega, by go_num, HSI.out.both HT1.out HF1.out HT2.out HF2.out rfl rfl HOK.out⟩
          case measure => simp [intOf]; omega
        have q0 : (op == 0) = false := by simp [o0]
        by_cases o1 : op = 1
        · have q1 : (op == 1) = true := by simp [o1]
          by_cases ht : timeE last now = 0
          · have H1 := Lib.hid (learnFind_ok gT age room last link now es wr HSI.out.tT HSI.out.ok ht)
            obtain ⟨t0, t1, t2⟩ := timeE_zero ht
            have H2 : Hid (∀ W : World, Fr (· = gT) wr W → Calls Try.prog 61 #[.pointer (some ⟨gT + 1, 0, none⟩), .int .i64 now] W fun e w' => e = .returned (.tuple #[]) ∧ Tab w' (gT + 1) 98 172 age room now (freshL age now es) ∧ Fr (· = gT + 1) W w') := fun W h => by
              have h1 := pass_any (gT + 1) age room last now es W (HSI.out.midM h) (by have := hl256.out; omega) HBD.out t0 t1 HSI.out.ok.a0 HSI.out.ok.a1
              rwa [pass_fresh age now es HSI.out.ok.srt] at h1
            have HOK := Lib.hid (fresh_ok HSI.out.ok t2 t1)
            have hfl : Hid ((freshL age now es).length ≤ 256) := by
              have := (fresh_sub age now es).length_le
              have := hl256.out
              show _ ≤ _
              omega
            rw [ht]
            generalize freshL age now es = fs at *
            have H3 : Hid (∀ W : World, Tab W (gT + 1) 98 172 age room now fs → Calls Try.prog 62 #[.pointer (some ⟨gT + 1, 0, none⟩), .int .i64 link] W fun e w' => e = .returned (.tuple #[.int .i64 (findL link fs).1, .bool (findL link fs).2]) ∧ Below W.heap.size W w') := fun W h => seenFind_any (gT + 1) age room now link fs W h hfl.out
            generalize (findL link fs).1 = p at H1 H3
            generalize (findL link fs).2 = b at H1 H3
            clear o0 o1 ht t0 t1 t2
            cases b
            all_goals
              go_wp2_with (first
                | (go_at_call 60; ((with_reducible refine H1.out.mono ?_)); rintro e1 w1 ⟨rfl, ht1, hf1⟩; have HT1 := Lib.hid ht1; have HF1 := Lib.hid hf1; clear ht1 hf1)
                | (go_at_call 61; ((with_reducible refine (H2.out _ HF1.out).mono ?_)); rintro e1 w2 ⟨rfl, ht2, hf2⟩; have HT2 := Lib.hid ht2; have HF2 := Lib.hid hf2; clear ht2 hf2)
                | (go_at_call 62; ((with_reducible refine (H3.out _ HT2.out).mono ?_)); rintro e1 w3 ⟨rfl, hb3⟩; have HB3 := Lib.hid hb3; clear hb3))
              go_roundw
              case rel => exact ⟨k + 1, now, fs, by omega, by go_num, HSI.out.both HT1.out HF1.out (HT2.out.below HB3.out) (HF2.out.trans (Fr.of_below HB3.out)) rfl rfl HOK.out⟩
              case measure => simp [intOf]; omega
          · have H1 := Lib.hid (learnFind_err gT age room last link now es wr HSI.out.tT ht)
            generalize timeE last now = tt at H1 ht ⊢
            have qt : (tt == 0) = false := by simpa using ht
            clear o0 o1 ht
            go_wp2_with (go_at_call 60; ((with_reducible refine H1.out.mono ?_)); rintro e1 w1 ⟨rfl, rfl⟩)
            go_roundw
            case rel => exact ⟨k + 1, last, es, by omega, by go_num, HSI.out⟩
            case measure => simp [intOf]; omega
        have q1 : (op == 1) = false := by simp [o1]
        by_cases o2 : op = 2
        · have q2 : (op == 2) = true := by simp [o2]
          have H1 := Lib.hid (learnDrop_any gT age room last port es wr HSI.out.tT (by have := hl256.out; omega))
          have H2 : Hid (∀ W : World, Fr (· = gT) wr W → Calls Try.prog 64 #[.pointer (some ⟨gT + 1, 0, none⟩), .int .i64 port] W fun e w' => e = .returned (.int .i64 ((es.length : Int) - (dropL port es).length)) ∧ Tab w' (gT + 1) 98 172 age room last (dropL port es) ∧ Fr (· = gT + 1) W w') := fun W h => seenDrop_any (gT + 1) age room last port es W (HSI.out.midM h) (by have := hl256.out; omega)
          have HOK := Lib.hid (drop_ok HSI.out.ok port)
          generalize (es.length : Int) - (dropL port es).length = d at H1 H2
          generalize dropL port es = ds at *
          clear o0 o1 o2
          go_wp2_with (first
            | (go_at_call 63; ((with_reducible refine H1.out.mono ?_)); rintro e1 w1 ⟨rfl, ht1, hf1⟩; have HT1 := Lib.hid ht1; have HF1 := Lib.hid hf1; clear ht1 hf1)
            | (go_at_call 64; ((with_reducible refine (H2.out _ HF1.out).mono ?_)); rintro e1 w2 ⟨rfl, ht2, hf2⟩; have HT2 := Lib.hid ht2; have HF2 := Lib.hid hf2; clear ht2 hf2))
          go_roundw
          case rel => exact ⟨k + 1, last, ds, by omega, by go_num, HSI.out.both HT1.out HF1.out HT2.out HF2.out rfl rfl HOK.out⟩
          case measure => simp [intOf]; omega
        have q2 : (op == 2) = false := by simp [o2]
        by_cases o3 : op = 3
        · have q3 : (op == 3) = true := by simp [o3]
          by_cases ht : timeE last now = 0
          · have H1 := Lib.hid (learnSize_ok gT age room last now es wr HSI.out.tT HSI.out.ok ht)
            obtain ⟨t0, t1, t2⟩ := timeE_zero ht
            have H2 : Hid (∀ W : World, Fr (· = gT) wr W → Calls Try.prog 61 #[.pointer (some ⟨gT + 1, 0, none⟩), .int .i64 now] W fun e w' => e = .returned (.tuple #[]) ∧ Tab w' (gT + 1) 98 172 age room now (freshL age now es) ∧ Fr (· = gT + 1) W w') := fun W h => by
              have h1 := pass_any (gT + 1) age room last now es W (HSI.out.midM h) (by have := hl256.out; omega) HBD.out t0 t1 HSI.out.ok.a0 HSI.out.ok.a1
              rwa [pass_fresh age now es HSI.out.ok.srt] at h1
            have HOK := Lib.hid (fresh_ok HSI.out.ok t2 t1)
            rw [ht]
            generalize freshL age now es = fs at *
            clear o0 o1 o2 o3 ht t0 t1 t2
            go_wp2_with (first
              | (go_at_call 65; ((with_reducible refine H1.out.mono ?_)); rintro e1 w1 ⟨rfl, ht1, hf1⟩; have HT1 := Lib.hid ht1; have HF1 := Lib.hid hf1; clear ht1 hf1)
              | (go_at_call 61; ((with_reducible refine (H2.out _ HF1.out).mono ?_)); rintro e1 w2 ⟨rfl, ht2, hf2⟩; have HT2 := Lib.hid ht2; have HF2 := Lib.hid hf2; obtain ⟨Aq, cq, _, _, hbq, _⟩ := ht2; have m3 := hbq.cell 3 rfl; clear hf2 hbq))
            go_roundw
            case rel => exact ⟨k + 1, now, fs, by omega, by go_num, HSI.out.both HT1.out HF1.out HT2.out HF2.out rfl rfl HOK.out⟩
            case measure => simp [intOf]; omega
          · have H1 := Lib.hid (learnSize_err gT age room last now es wr HSI.out.tT ht)
            generalize timeE last now = tt at H1 ht ⊢
            have qt : (tt == 0) = false := by simpa using ht
            clear o0 o1 o2 o3 ht
            go_wp2_with (go_at_call 65; ((with_reducible refine H1.out.mono ?_)); rintro e1 w1 ⟨rfl, rfl⟩)
            go_roundw
            case rel => exact ⟨k + 1, last, es, by omega, by go_num, HSI.out⟩
            case measure => simp [intOf]; omega
        have q3 : (op == 3) = false := by simp [o3]
        clear o0 o1 o2 o3
        go_wp2
        go_roundw
        case rel => exact ⟨k + 1, last, es, by omega, by go_num, HSI.out⟩
        case measure => simp [intOf]; omega
      · go_wp2
        go_ret
        exact ⟨rfl, hB1.out ▸ hli.below⟩
  · have HN2 : Hid (∀ W : World, Calls Try.prog 56 #[.int .i64 age, .int .i64 room] W fun e w' => e = .returned (.tuple #[.pointer none, .int .i64 1]) ∧ W = w') := fun W => learnNew_bad age room W (by omega)
    have h4 : age < 1 ∨ (1 ≤ age ∧ 1000000000 < age) ∨ (1 ≤ age ∧ age ≤ 1000000000 ∧ room < 1) ∨ (1 ≤ age ∧ age ≤ 1000000000 ∧ 1 ≤ room ∧ 256 < room) := by omega
    clear hok
    rcases h4 with h4 | ⟨h4, h5⟩ | ⟨h4, h5, h6⟩ | ⟨h4, h5, h6, h7⟩
    all_goals
      go_enter Try.func9, Try.ntmps9
      go_wp2_with (first
        | (go_at_call 56; ((with_reducible refine (HN1.out _).mono ?_)); rintro e w1 ⟨rfl, rfl⟩)
        | (go_at_call 57; ((with_reducible refine HS1.out.mono ?_)); rintro e w2 ⟨rfl, hb2⟩; have HB2 := Lib.hid hb2; clear hb2)
        | (go_at_call 56; ((with_reducible refine (HN2.out _).mono ?_)); rintro e w1 ⟨rfl, rfl⟩))
      go_ret
      exact ⟨rfl, HB2.out⟩
end Go.Proofs.Ytfeddgeihpfjfaa
