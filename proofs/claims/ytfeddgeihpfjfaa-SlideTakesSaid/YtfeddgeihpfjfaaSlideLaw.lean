/- The law SlideTakes, walked. -/
import Derived.Test.YtfeddgeihpfjfaaSlide3
import Derived.Test.YtfeddgeihpfjfaaPick
import Derived.Test.YtfeddgeihpfjfaaAt
set_option linter.unusedSimpArgs false
set_option linter.unusedVariables false
namespace Go.Proofs.Ytfeddgeihpfjfaa
open Go.RowKit Crc
attribute [local go_sem] min_ints max_ints

structure SI (B : Nat) (w0 wr : World) (md got : Nat) : Prop where
  below : Below B w0 wr
  size : B + 3 ≤ wr.heap.size
  recv : Blk wr (B + 1) #[.int .i64 md, .int .i64 ((got % md : Nat) : Int)] 152
  taking : Blk wr (B + 1 + 1) #[.int .i64 md, .int .i64 got] 52

theorem SI.grown {B : Nat} {w0 wr w1 : World} {md got : Nat} (h : SI B w0 wr md got) (hb : Below wr.heap.size wr w1) : SI B w0 w1 md got := by
  have hs := h.size
  have hs1 := hb.size
  exact ⟨h.below.trans (hb.mono (by omega)), by omega, blk_below hb h.recv, blk_below hb h.taking⟩
theorem SI.both {B : Nat} {w0 wr w1 w2 : World} {md got got' : Nat} (h : SI B w0 wr md got) (hr : Blk w1 (B + 1) #[.int .i64 md, .int .i64 ((got' % md : Nat) : Int)] 152) (f1 : Fr (· = B + 1) wr w1)
    (ht : Blk w2 (B + 1 + 1) #[.int .i64 md, .int .i64 got'] 52) (f2 : Fr (· = B + 1 + 1) w1 w2) : SI B w0 w2 md got' := by
  have hs := h.size
  have hs1 := f1.size
  have hs2 := f2.size
  exact ⟨below_fr (below_fr h.below f1 (by omega) (fun k hk => by omega)) f2 (by omega) (fun k hk => by omega), by omega, f2.blk hr (by omega), ht⟩

theorem takeS_got (md got : Nat) (t : List UInt8) : (takeS md got t).got ≤ got + 1 := by
  simp only [takeS]
  split
  · show got ≤ got + 1; omega
  · split
    · show got ≤ got + 1; omega
    · split
      · show got + 1 ≤ got + 1; omega
      · show got ≤ got + 1; omega

set_option maxRecDepth 100000 in
set_option maxHeartbeats 4000000 in
theorem slide_law (w : World) (mod : Int) (hmod : I64 mod) (A : Option Addr) (cap : Nat) (ls : List (List Int)) (hl : Rows2 w.heap.size w A ls) (hcap : ls.length ≤ cap) (hcm : cap ≤ maxLen)
    (A2 : Option Addr) (cap2 : Nat) (ts : List ByteArray) (ht : Strs w.heap.size w A2 ts) (hcap2 : ts.length ≤ cap2) (hcm2 : cap2 ≤ maxLen) :
    Calls Try.prog 5 #[.int .i64 mod, .slice A ls.length cap, .slice A2 ts.length cap2] w fun e w' => e = .returned (.bool true) ∧ Below w.heap.size w w' := by
  have HL := Lib.hid hl
  have HTX := Lib.hid ht
  have hlen := hl.1
  clear hl ht hmod hcm hcm2 hcap2
  have HN8 : Hid (∀ W : World, Calls Try.prog 34 #[.int .i64 8] W fun e w' => e = .returned (.tuple #[.pointer (some ⟨W.heap.size, 0, none⟩), .int .i64 0]) ∧ w' = W.alloc (.cells #[.int .i64 8, .int .i64 0] 152)) := fun W => newrecv_ok 8 rfl W
  by_cases hm : mod = 8 ∨ mod = 16
  · obtain ⟨md, hmd, hk⟩ : ∃ md : Nat, mod = (md : Int) ∧ (md = 8 ∨ md = 16) := by
      rcases hm with h | h
      · exact ⟨8, h, .inl rfl⟩
      · exact ⟨16, h, .inr rfl⟩
    clear hm
    subst hmd
    have HN : Hid (∀ W : World, Calls Try.prog 34 #[.int .i64 (md : Int)] W fun e w' => e = .returned (.tuple #[.pointer (some ⟨W.heap.size, 0, none⟩), .int .i64 0]) ∧ w' = W.alloc (.cells #[.int .i64 (md : Int), .int .i64 0] 152)) := fun W => newrecv_ok (md : Int) (by rcases hk with rfl | rfl <;> rfl) W
    have q16 : (((md : Int) != 8) = false) ∨ (((md : Int) != 8) = true ∧ ((md : Int) != 16) = false) := by
      rcases hk with rfl | rfl
      · exact .inl rfl
      · exact .inr ⟨rfl, rfl⟩
    have HM := Lib.hid hk
    have HG : Hid (0 < md) := by show 0 < md; omega
    clear hk
    rcases q16 with q1 | ⟨q1, q2⟩
    all_goals
      go_enter Try.func5, Try.ntmps5
      go_wp2_with (first
        | (go_at_call 34; ((with_reducible refine (HN8.out _).mono ?_)); rintro e w1 ⟨rfl, rfl⟩)
        | (go_at_call 34; ((with_reducible refine (HN.out _).mono ?_)); rintro e w1 ⟨rfl, rfl⟩))
      generalize hN : (min (ls.length : Int) 100) = N
      have hN1 : N ≤ ls.length := by omega
      have hN0 : 0 ≤ N := by omega
      have hN2 : N ≤ 100 := by omega
      clear hN
      obtain ⟨n, rfl⟩ := Int.eq_ofNat_of_zero_le hN0
      have hn : n ≤ ls.length := by omega
      have hn100 : n ≤ 100 := by omega
      clear hN0 hN1 hN2
      try simp only [Int.toNat_natCast]
      rw [show max (n : Int) 0 = n from by omega]
      have HST : Hid (SI w.heap.size w (((w.alloc (.cells #[.int .i64 8, .int .i64 0] 152)).alloc (.cells #[.int .i64 (md : Int), .int .i64 0] 152)).alloc (.cells #[.int .i64 (md : Int), .int .i64 0] 52)) md 0) := by
        refine ⟨?_, by simp, ?_, ?_⟩
        · exact ((((Below.refl _ _).alloc (Nat.le_refl _) _).alloc (by simp) _).alloc (by simp; omega) _)
        · have h := Blk.new (w.alloc (.cells #[.int .i64 8, .int .i64 0] 152)) #[.int .i64 (md : Int), .int .i64 0] 152
          simp only [World.size_alloc] at h
          rw [Nat.zero_mod]
          exact h.alloc _
        · have h := Blk.new ((w.alloc (.cells #[.int .i64 8, .int .i64 0] 152)).alloc (.cells #[.int .i64 (md : Int), .int .i64 0] 152)) #[.int .i64 (md : Int), .int .i64 0] 52
          simp only [World.size_alloc] at h
          exact h
      clear HN HN8
      generalize hB : w.heap.size = B at *
      have hB1 := Lib.hid hB
      clear hB
      go_loopw [65] (fun i W => ∃ (k got : Nat), k ≤ n ∧ i = .int .i64 k ∧ got ≤ k ∧ SI B w W md got) (fun i _ => n - (intOf i).toNat)
      case atStart => exact ⟨0, 0, by omega, rfl, by omega, HST.out⟩
      case round =>
        clear HST
        obtain ⟨k, got, hk, rfl, hgk, hsi⟩ := hrel
        by_cases hlt : k < n
        · obtain ⟨ad, rfl, hadB, hrow⟩ := (HL.out.below hsi.below).2 (by omega)
          obtain ⟨A', c0, hcell, hints⟩ := hrow k (by omega)
          clear hrow
          generalize hxs : ls.getD k [] = xs at hcell hints
          clear hxs
          have HAT : Hid (∀ (i : Int) (j : Nat) (W : World), i = j → j < 1000 → Below B wr W → Calls Try.prog 18 #[.slice A' xs.length c0, .int .i64 i] W fun e w' => e = .returned (.int .i64 (xs.getD j 0)) ∧ W = w') := fun i j W h1 h2 h3 => at_any (B := B) A' xs c0 i j h1 h2 W (hints.below h3)
          clear hints
          have A0 : Hid (∀ W : World, Below B wr W → Calls Try.prog 18 #[.slice A' xs.length c0, .int .i64 0] W fun e w' => e = .returned (.int .i64 (xs.getD 0 0)) ∧ W = w') := fun W h => HAT.out 0 0 W rfl (by omega) h
          have A1 : Hid (∀ W : World, Below B wr W → Calls Try.prog 18 #[.slice A' xs.length c0, .int .i64 1] W fun e w' => e = .returned (.int .i64 (xs.getD 1 0)) ∧ W = w') := fun W h => HAT.out 1 1 W rfl (by omega) h
          have A2' : Hid (∀ W : World, Below B wr W → Calls Try.prog 18 #[.slice A' xs.length c0, .int .i64 2] W fun e w' => e = .returned (.int .i64 (xs.getD 2 0)) ∧ W = w') := fun W h => HAT.out 2 2 W rfl (by omega) h
          generalize xs.getD 0 0 = op at A0
          generalize xs.getD 1 0 = a1 at A1
          generalize xs.getD 2 0 = a2 at A2'
          have HP : Hid (Calls Try.prog 35 #[.slice A2 ts.length cap2, .int .i64 a1] wr (SomeText 2000 wr)) := pick_any (B := B) A2 ts cap2 a1 wr (HTX.out.below hsi.below)
          have HSI := Lib.hid hsi
          clear hsi HAT
          go_upto_if 75 with (first
            | (go_at_call 18; ((with_reducible refine (A0.out _ (Below.refl _ _)).mono ?_)); rintro e1 w1 ⟨rfl, rfl⟩)
            | (go_at_call 18; ((with_reducible refine (A1.out _ (Below.refl _ _)).mono ?_)); rintro e1 w1 ⟨rfl, rfl⟩)
            | (go_at_call 35; ((with_reducible refine HP.out.mono ?_)); rintro e1 w1 ⟨x, hx, rfl, rfl⟩))
          go_cut [14] (fun v W => ∃ s : ByteArray, s.size ≤ 10000 ∧ v = .string s ∧ Hid (SI B w W md got))
          case first =>
            by_cases h0 : op = 0
            · have q0 : (op == 0) = true := by simp [h0]
              have HNB : Hid (∀ W : World, Calls Try.prog 36 #[.string ⟨#[68]⟩, .int .i64 a2, .string x] W fun e w' => e = .returned (.string (bs (sealed (68 :: byteOf a2 :: x.data.toList)))) ∧ Below W.heap.size W w') := fun W => numbered_any ⟨#[68]⟩ x 68 rfl a2 (by omega) W
              have hz : (bs (sealed (68 :: byteOf a2 :: x.data.toList))).size ≤ 10000 := by
                rw [bs_size, sealed_length]; have : x.data.toList.length = x.size := rfl; simp only [List.length_cons, this]; omega
              generalize bs (sealed (68 :: byteOf a2 :: x.data.toList)) = y at HNB hz
              clear h0
              go_wp2_with (first
                | (go_at_call 18; ((with_reducible refine (A2'.out _ (Below.refl _ _)).mono ?_)); rintro e1 w1 ⟨rfl, rfl⟩)
                | (go_at_call 36; ((with_reducible refine (HNB.out _).mono ?_)); rintro e1 w1 ⟨rfl, hb1⟩; have HB1 := Lib.hid hb1; clear hb1))
              go_meet
              exact ⟨y, hz, rfl, HSI.out.grown HB1.out⟩
            · have q0 : (op == 0) = false := by simp [h0]
              clear h0
              go_wp2_with fail
              go_meet
              exact ⟨x, by omega, rfl, HSI.out⟩
          case rest =>
            obtain ⟨y, hy, rfl, HS⟩ := hcut
            clear HSI HP A0 A1 A2' hcell
            have HR : Hid (Calls Try.prog 37 #[.pointer (some ⟨B + 1, 0, none⟩), .string y] wc fun e w' => e = .returned (.tuple #[.string (bs (takeS md got y.data.toList).body), .bool (takeS md got y.data.toList).fresh, .string (bs (takeS md got y.data.toList).ack), .int .i64 (takeS md got y.data.toList).err]) ∧
              Blk w' (B + 1) #[.int .i64 md, .int .i64 (((takeS md got y.data.toList).got % md : Nat) : Int)] 152 ∧ Fr (· = B + 1) wc w') := recv_any (B + 1) md got HM.out y (by omega) wc HS.out.recv
            have HT : Hid (∀ W : World, Blk W (B + 1 + 1) #[.int .i64 md, .int .i64 got] 52 → Calls Try.prog 38 #[.pointer (some ⟨B + 1 + 1, 0, none⟩), .string y] W fun e w' => e = .returned (.tuple #[.string (bs (takeS md got y.data.toList).body), .bool (takeS md got y.data.toList).fresh, .string (bs (takeS md got y.data.toList).ack), .int .i64 (takeS md got y.data.toList).err]) ∧
              Blk w' (B + 1 + 1) #[.int .i64 md, .int .i64 ((takeS md got y.data.toList).got : Int)] 52 ∧ Fr (· = B + 1 + 1) W w') := fun W h => taking_any (B + 1 + 1) md got HM.out (by omega) y (by omega) W h
            have hgot : (takeS md got y.data.toList).got ≤ got + 1 := takeS_got md got _
            generalize takeS md got y.data.toList = T at HR HT hgot
            generalize bs T.body = b1 at HR HT
            generalize bs T.ack = b2 at HR HT
            generalize T.fresh = b3 at HR HT
            generalize T.err = b4 at HR HT
            generalize T.got = got' at HR HT hgot
            go_wp2_with (first
              | (go_at_call 37; ((with_reducible refine HR.out.mono ?_)); rintro e1 w1 ⟨rfl, hr1, hf1⟩; have HR1 := Lib.hid hr1; have HF1 := Lib.hid hf1; clear hr1 hf1)
              | (go_at_call 38; ((with_reducible refine (HT.out _ (HF1.out.blk HS.out.taking (by omega))).mono ?_)); rintro e1 w2 ⟨rfl, ht1, hf2⟩; have HT1 := Lib.hid ht1; have HF2 := Lib.hid hf2; clear ht1 hf2))
            go_roundw
            case rel => exact ⟨k + 1, got', by omega, by go_num, by omega, HS.out.both HR1.out HF1.out HT1.out HF2.out⟩
            case measure => simp [intOf]; omega
        · go_wp2
          go_ret
          exact ⟨rfl, hB1.out ▸ hsi.below⟩
  · have q1 : (mod != 8) = true := by rw [bne_iff_ne]; omega
    have q2 : (mod != 16) = true := by rw [bne_iff_ne]; omega
    have HNB : Hid (∀ W : World, Calls Try.prog 34 #[.int .i64 mod] W fun e w' => e = .returned (.tuple #[.pointer none, .int .i64 1]) ∧ W = w') := fun W => newrecv_bad mod (by simp only [Bool.or_eq_false_iff, beq_eq_false_iff_ne]; omega) W
    clear hm
    go_enter Try.func5, Try.ntmps5
    go_wp2_with (first
      | (go_at_call 34; ((with_reducible refine (HN8.out _).mono ?_)); rintro e w1 ⟨rfl, rfl⟩)
      | (go_at_call 34; ((with_reducible refine (HNB.out _).mono ?_)); rintro e w1 ⟨rfl, rfl⟩))
    go_ret
    exact ⟨rfl, (Below.refl _ _).alloc (Nat.le_refl _) _⟩
end Go.Proofs.Ytfeddgeihpfjfaa
