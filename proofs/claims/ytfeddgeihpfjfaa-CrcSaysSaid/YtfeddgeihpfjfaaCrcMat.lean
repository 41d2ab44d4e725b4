/- The reference's way to join: maps by their columns. -/
import Derived.Test.YtfeddgeihpfjfaaCrcTab
import Derived.Test.YtfeddgeihpfjfaaCrcJoin
set_option linter.unusedSimpArgs false
set_option linter.unusedVariables false
namespace Go.Proofs.Ytfeddgeihpfjfaa
open Go.RowKit Crc

theorem ite_xor (c : Bool) (a b : W) : a ^^^ (if c = true then b else 0#32) = if c = true then a ^^^ b else a := by cases c <;> simp

set_option maxRecDepth 100000 in
theorem apply_any (m : Nat → W) (v : W) (w : World) :
    Calls Try.prog 94 #[.agg (word0 m 32), U v] w fun e w' => e = .returned (U (apply m 32 v 0#32)) ∧ Below w.heap.size w w' := by
  have HW : Hid (Words (word0 m 32) 32 m 32) := words0 m 32
  have hsz := HW.out.size
  generalize word0 m 32 = cs at HW hsz ⊢
  go_enter Try.func94, Try.ntmps94
  go_wp2_with (first
    | (refine wpList_load_row rfl 147 (.tmp 2) rfl w.heap.size rfl 147 cs (0, 0) (.array 32 38) (Blk.new w _ _) Try.underlying147 rfl (by rw [HW.out.size]; kernel_rfl) ?_))
  go_loop [5, 9] (fun o i => ∃ k : Nat, k ≤ 32 ∧ i = .int .i64 k ∧ o = U (apply m k v 0#32)) (fun _ i => 32 - (intOf i).toNat)
  case atStart => exact ⟨0, by omega, rfl, rfl⟩
  case round =>
    obtain ⟨k, hk, rfl, rfl⟩ := hrel
    have HR : Hid (apply m (k + 1) v 0#32 = if v.getLsbD k = true then apply m k v 0#32 ^^^ m k else apply m k v 0#32) := by show _ = _; rw [apply, ite_xor]
    have HE : Hid (k = 32 → apply m k v 0#32 = apply m 32 v 0#32) := fun h => by rw [h]
    generalize apply m k v 0#32 = o at HR HE
    by_cases hlt : k < 32
    · have hq : decide ((k : Int) < 32) = true := by simp; omega
      have hat := fun W : World => run_index_agg (P := Try.prog) W 147 38 32 cs k _ Try.underlying147 Try.underlying38 rfl (by kernel_rfl) hlt (HW.out.at_ k hlt)
      have hb := bit_tmod v k
      have hx := xor_word o (m k)
      cases hc : v.getLsbD k with
      | true =>
        simp only [hc, if_true] at hb
        have HR2 : Hid (apply m (k + 1) v 0#32 = o ^^^ m k) := by have := HR.out; rwa [hc, if_pos rfl] at this
        clear hc HR HE
        go_wp2
        go_round
        case rel => exact ⟨k + 1, by omega, by go_num, by rw [HR2.out]⟩
        case measure => simp [intOf]; omega
      | false =>
        simp only [hc, Bool.false_eq_true, if_false] at hb
        have HR2 : Hid (apply m (k + 1) v 0#32 = o) := by have := HR.out; rwa [hc, if_neg (by simp)] at this
        clear hc HR HE
        go_wp2
        go_round
        case rel => exact ⟨k + 1, by omega, by go_num, by rw [HR2.out]⟩
        case measure => simp [intOf]; omega
    · have hkk : k = 32 := by omega
      have HO : Hid (o = apply m 32 v 0#32) := HE.out hkk
      subst hkk
      clear HE HR
      go_wp2
      go_ret
      exact ⟨by rw [← HO.out]; rfl, (Below.refl _ _).alloc (Nat.le_refl _) _⟩

/-- The columns of the map 'times x^8'. -/
def col8 (i : Nat) : W := hpow 8 (1#32 <<< i)
def joinR (a b : W) (n : Int) : W := rjoinL n.toNat a col8 n.toNat ^^^ b
theorem joinR_eq (a b : W) (n : Int) : joinR a b n = joinW a b n := by
  rw [joinR, joinW, join_eq n.toNat n.toNat a (1#32 <<< 23) col8 (fun i hi => (times_x8 _).symm)]
theorem rjoinL_more : ∀ (f g n : Nat) (a : W) (m : Nat → W), n ≤ f → n ≤ g → rjoinL f a m n = rjoinL g a m n := by
  intro f
  induction f with
  | zero =>
    intro g n a m h1 h2
    obtain rfl : n = 0 := by omega
    cases g <;> simp [rjoinL]
  | succ f ih =>
    intro g n a m h1 h2
    by_cases hn : n = 0
    · subst hn; cases g <;> simp [rjoinL]
    · obtain ⟨g, rfl⟩ : ∃ m, g = m + 1 := ⟨g - 1, by omega⟩
      rw [rjoinL, rjoinL, if_neg hn, if_neg hn]
      exact ih g (n / 2) _ _ (by omega) (by omega)
theorem rjoinL_step (n : Nat) (hn : 0 < n) (x : W) (m : Nat → W) : rjoinL n x m n = rjoinL (n / 2) (if n % 2 = 1 then apply m 32 x 0#32 else x) (fun i => apply m 32 (m i) 0#32) (n / 2) := by
  obtain ⟨k, rfl⟩ : ∃ k, n = k + 1 := ⟨n - 1, by omega⟩
  conv => lhs; rw [rjoinL, if_neg (by omega)]
  exact rjoinL_more _ _ _ _ _ (by omega) (by omega)
theorem wn_shl (i : Nat) (hi : i < 32) : wn (1#32 <<< i) = 2 ^ i := by
  have : ∀ j : Fin 32, wn (1#32 <<< j.val) = 2 ^ j.val := by decide +kernel
  exact this ⟨i, hi⟩

set_option maxRecDepth 100000 in
set_option maxHeartbeats 2000000 in
theorem joinSum_any (a b : W) (n : Int) (hn : n ≤ 9223372036854775807) (w : World) :
    Calls Try.prog 31 #[U a, U b, .int .i64 n] w fun e w' => e = .returned (U (joinR a b n)) ∧ Below w.heap.size w w' := by
  have HJ : Hid (rjoinL n.toNat a col8 n.toNat ^^^ b = joinR a b n) := rfl
  generalize joinR a b n = J at HJ ⊢
  go_enter Try.func31, Try.ntmps31
  go_wp2
  go_loopw [14] (fun i W => ∃ (k : Nat) (cs : Array Value), k ≤ 32 ∧ i = .int .i64 k ∧ Words cs 32 col8 k ∧ Blk W w.heap.size cs 147 ∧ Below w.heap.size w W) (fun i _ => 32 - (intOf i).toNat)
  case atStart => exact ⟨0, _, by omega, rfl, ⟨rfl, fun i hi => by omega, by kernel_rfl⟩, Blk.new w _ _, (Below.refl _ _).alloc (Nat.le_refl _) _⟩
  case round =>
    obtain ⟨k, cs, hk, rfl, hws, hblk, hbel⟩ := hrel
    have HWS := Lib.hid hws
    have HBK := Lib.hid hblk
    have HBL := Lib.hid hbel
    clear hws hblk hbel
    by_cases hlt : k < 32
    · have hq : decide ((k : Int) < 32) = true := by simp; omega
      have hw1 : (2 : Int) ^ k < 4294967296 := by rw [← wn_shl k hlt]; exact wn_lt _
      have hw0 : (0 : Int) ≤ 2 ^ k := by rw [← wn_shl k hlt]; exact wn_ge _
      go_wp2
      go_loop [9, 19] (fun c i => ∃ (j : Nat) (x : W), j ≤ 8 ∧ i = .int .i64 j ∧ c = U x ∧ hpow (8 - j) x = col8 k) (fun _ i => 8 - (intOf i).toNat)
      case atStart =>
        refine ⟨0, 1#32 <<< k, by omega, rfl, ?_, rfl⟩
        show Value.int .u32 _ = .int .u32 (wn _)
        rw [wn_shl k hlt]
      case round =>
        clear hw1 hw0
        obtain ⟨j, x, hj, rfl, rfl, hf⟩ := hrel
        have HF := Lib.hid hf
        clear hf
        by_cases hlt2 : j < 8
        · go_wp2_with (go_at_call 92; ((with_reducible refine (shift_any _ _).mono ?_)); rintro e w1 ⟨rfl, rfl⟩)
          go_round
          case rel =>
            refine ⟨j + 1, half x, by omega, by go_num, rfl, ?_⟩
            rw [← HF.out, show 8 - j = 8 - (j + 1) + 1 by omega]; rfl
          case measure => simp [intOf]; omega
        · obtain rfl : j = 8 := by omega
          have hxe : x = col8 k := HF.out
          clear HF
          subst hxe
          have hc : wr.cell? ⟨w.heap.size, k, none⟩ = some (cs[k]'(by rw [HWS.out.size]; exact hlt)) := HBK.out.cell k (by rw [Array.getElem?_eq_getElem (by rw [HWS.out.size]; exact hlt)])
          have hfz := HBK.out.free k
          go_wp2
          go_roundw
          case rel =>
            exact ⟨k + 1, _, by omega, by go_num, HWS.out.set hlt, HBK.out.set k _, HBL.out.setCell (Nat.le_refl _) _⟩
          case measure => simp [intOf]; omega
    · have hkk : k = 32 := by omega
      have hwe : cs = word0 col8 32 := by
        have h := HWS.out
        rw [hkk] at h
        exact h.eq
      subst hwe
      clear HWS hkk
      go_wp2
      generalize hgg : w.heap.size = g at *
      have HG := Lib.hid hgg
      clear hgg
      go_loopw [0, 2] (fun x i W => ∃ (k : Int) (x' : Crc.W) (m : Nat → Crc.W), k ≤ 9223372036854775807 ∧ x = U x' ∧ i = .int .i64 k ∧ Blk W g (word0 m 32) 147 ∧ Below g w W ∧ rjoinL k.toNat x' m k.toNat ^^^ b = J) (fun _ i _ => (intOf i).toNat)
      case atStart => exact ⟨n, a, col8, hn, rfl, rfl, HBK.out, HBL.out, HJ.out⟩
      case round =>
        clear HBK HBL HJ
        obtain ⟨k, x, m, hk, rfl, rfl, hbk, hbl, hf⟩ := hrel
        have HBK := Lib.hid hbk
        have HBL := Lib.hid hbl
        have HF := Lib.hid hf
        have HSZ : Hid (g ≤ wr.heap.size) := by have := hbk.lt; show g ≤ _; omega
        clear hbk hbl hf
        by_cases h0 : k ≤ 0
        · have hx := xor_word x b
          have HE : Hid (x ^^^ b = J) := by have h := HF.out; rw [show k.toNat = 0 by omega] at h; exact h
          clear HF
          go_wp2
          go_ret
          exact ⟨by rw [← HE.out]; rfl, HG.out ▸ HBL.out⟩
        · by_cases hodd : k % 2 = 1
          · have hq : (k % 2 == 1) = true := by simp [hodd]
            go_upto_region 18 with (first
              | (refine wpList_load_row rfl 147 (.tmp 7) rfl g rfl 147 (word0 m 32) (0, 0) (.array 32 38) HBK.out Try.underlying147 rfl (by rw [(words0 m 32).size]; kernel_rfl) ?_)
              | (go_at_call 94; ((with_reducible refine (apply_any m x _).mono ?_)); rintro e w1 ⟨rfl, hb1⟩; have HBK := Lib.hid (blk_below hb1 HBK.out); have HBL := Lib.hid (HBL.out.trans (hb1.mono HSZ.out)); have HSZ := Lib.hid (Nat.le_trans HSZ.out hb1.size); clear hb1))
            rename World => w1
            have HBK0 := HBK
            have HT : Hid (rjoinL (k / 2).toNat (apply m 32 x 0#32) (fun i => apply m 32 (m i) 0#32) (k / 2).toNat ^^^ b = J) := by
              have h := HF.out
              rw [rjoinL_step k.toNat (by omega), if_pos (by omega), show k.toNat / 2 = (k / 2).toNat by omega] at h
              exact h
            clear HF
            generalize (apply m 32 x 0#32) = x2 at HT ⊢
            have HBK := Lib.hid (HBK.out.alloc (Obj.cells #[.int .u32 0, .int .u32 0, .int .u32 0, .int .u32 0, .int .u32 0, .int .u32 0, .int .u32 0, .int .u32 0, .int .u32 0, .int .u32 0, .int .u32 0, .int .u32 0, .int .u32 0, .int .u32 0, .int .u32 0, .int .u32 0, .int .u32 0, .int .u32 0, .int .u32 0, .int .u32 0, .int .u32 0, .int .u32 0, .int .u32 0, .int .u32 0, .int .u32 0, .int .u32 0, .int .u32 0, .int .u32 0, .int .u32 0, .int .u32 0, .int .u32 0, .int .u32 0] 147))
            have HBL := Lib.hid (HBL.out.alloc HSZ.out (Obj.cells #[.int .u32 0, .int .u32 0, .int .u32 0, .int .u32 0, .int .u32 0, .int .u32 0, .int .u32 0, .int .u32 0, .int .u32 0, .int .u32 0, .int .u32 0, .int .u32 0, .int .u32 0, .int .u32 0, .int .u32 0, .int .u32 0, .int .u32 0, .int .u32 0, .int .u32 0, .int .u32 0, .int .u32 0, .int .u32 0, .int .u32 0, .int .u32 0, .int .u32 0, .int .u32 0, .int .u32 0, .int .u32 0, .int .u32 0, .int .u32 0, .int .u32 0, .int .u32 0] 147))
            have HZ := Lib.hid (Blk.new w1 #[.int .u32 0, .int .u32 0, .int .u32 0, .int .u32 0, .int .u32 0, .int .u32 0, .int .u32 0, .int .u32 0, .int .u32 0, .int .u32 0, .int .u32 0, .int .u32 0, .int .u32 0, .int .u32 0, .int .u32 0, .int .u32 0, .int .u32 0, .int .u32 0, .int .u32 0, .int .u32 0, .int .u32 0, .int .u32 0, .int .u32 0, .int .u32 0, .int .u32 0, .int .u32 0, .int .u32 0, .int .u32 0, .int .u32 0, .int .u32 0, .int .u32 0, .int .u32 0] 147)
            have HNE : Hid (g ≠ w1.heap.size ∧ g ≤ w1.heap.size) := ⟨by have h := HBK0.out.lt; omega, HSZ.out⟩
            have HW2 : Hid (Words #[.int .u32 0, .int .u32 0, .int .u32 0, .int .u32 0, .int .u32 0, .int .u32 0, .int .u32 0, .int .u32 0, .int .u32 0, .int .u32 0, .int .u32 0, .int .u32 0, .int .u32 0, .int .u32 0, .int .u32 0, .int .u32 0, .int .u32 0, .int .u32 0, .int .u32 0, .int .u32 0, .int .u32 0, .int .u32 0, .int .u32 0, .int .u32 0, .int .u32 0, .int .u32 0, .int .u32 0, .int .u32 0, .int .u32 0, .int .u32 0, .int .u32 0, .int .u32 0] 32 (fun i => apply m 32 (m i) 0#32) 0) := ⟨rfl, fun i hi => by omega, by kernel_rfl⟩
            generalize w1.heap.size = g2 at HZ HNE ⊢
            generalize (#[.int .u32 0, .int .u32 0, .int .u32 0, .int .u32 0, .int .u32 0, .int .u32 0, .int .u32 0, .int .u32 0, .int .u32 0, .int .u32 0, .int .u32 0, .int .u32 0, .int .u32 0, .int .u32 0, .int .u32 0, .int .u32 0, .int .u32 0, .int .u32 0, .int .u32 0, .int .u32 0, .int .u32 0, .int .u32 0, .int .u32 0, .int .u32 0, .int .u32 0, .int .u32 0, .int .u32 0, .int .u32 0, .int .u32 0, .int .u32 0, .int .u32 0, .int .u32 0] : Array Value) = zs at HBK HBL HZ HW2 ⊢
            generalize w1.alloc (Obj.cells zs 147) = W3 at HBK HBL HZ ⊢

            go_wp2_with (first
              | (refine wpList_load_row rfl 147 (.tmp 7) rfl g rfl 147 (word0 m 32) (0, 0) (.array 32 38) HBK.out Try.underlying147 rfl (by rw [(words0 m 32).size]; kernel_rfl) ?_))
            go_loopw [40] (fun i W => ∃ (j : Nat) (cs2 : Array Value), j ≤ 32 ∧ i = .int .i64 j ∧ Words cs2 32 (fun i => apply m 32 (m i) 0#32) j ∧ Blk W g2 cs2 147 ∧ Blk W g (word0 m 32) 147 ∧ Below g w W) (fun i _ => 32 - (intOf i).toNat)
            case atStart => exact ⟨0, zs, by omega, rfl, HW2.out, HZ.out, HBK.out, HBL.out⟩
            case round =>
              clear HW2 HZ HBK HBL HSZ HBK0
              obtain ⟨j, cs2, hj, rfl, hws, hz, hbk, hbl⟩ := hrel
              have HWS := Lib.hid hws
              have HZ := Lib.hid hz
              have HBK := Lib.hid hbk
              have HBL := Lib.hid hbl
              have HSZ : Hid (g ≤ wr.heap.size) := by have := hbk.lt; show g ≤ _; omega
              clear hws hz hbk hbl
              by_cases hlt : j < 32
              · have hq3 : decide ((j : Int) < 32) = true := by simp; omega
                have hat := fun W : World => run_index_agg (P := Try.prog) W 147 38 32 (word0 m 32) j _ Try.underlying147 Try.underlying38 rfl (by kernel_rfl) hlt ((words0 m 32).at_ j hlt)
                go_wp2_with (first
                  | (refine wpList_load_row rfl 147 (.tmp 7) rfl g rfl 147 (word0 m 32) (0, 0) (.array 32 38) HBK.out Try.underlying147 rfl (by rw [(words0 m 32).size]; kernel_rfl) ?_)
                  | (go_at_call 94; ((with_reducible refine (apply_any m (m j) _).mono ?_)); rintro e w1 ⟨rfl, hb1⟩; have HZ := Lib.hid (blk_below hb1 HZ.out); have hc := HZ.out.cell j (by rw [Array.getElem?_eq_getElem (by rw [HWS.out.size]; exact hlt)]); have hfz := HZ.out.free j; have HBK := Lib.hid (blk_below hb1 HBK.out); have HBL := Lib.hid (HBL.out.trans (hb1.mono HSZ.out)); have HSZ := Lib.hid (Nat.le_trans HSZ.out hb1.size); clear hb1))
                go_roundw
                case rel => exact ⟨j + 1, _, by omega, by go_num, HWS.out.set hlt, HZ.out.set j _, HBK.out.other HNE.out.1 _, HBL.out.setCell HNE.out.2 _⟩
                case measure => simp [intOf]; omega
              · obtain rfl : j = 32 := by omega
                have hwe := HWS.out.eq
                subst hwe
                clear HWS
                go_wp2_with (first
                  | (refine wpList_load_row rfl 147 (.tmp 11) rfl g2 rfl 147 (word0 (fun i => apply m 32 (m i) 0#32) 32) (0, 0) (.array 32 38) HZ.out Try.underlying147 rfl (by rw [(words0 (fun i => apply m 32 (m i) 0#32) 32).size]; kernel_rfl) ?_)
                  | (refine wpList_store_row rfl 147 (.tmp 7) (.tmp 51) rfl g (word0 (fun i => apply m 32 (m i) 0#32) 32) rfl rfl 147 (word0 m 32) HBK.out (by rw [(words0 (fun i => apply m 32 (m i) 0#32) 32).size]; kernel_rfl) (by rw [(words0 (fun i => apply m 32 (m i) 0#32) 32).size, (words0 m 32).size]) (words0 (fun i => apply m 32 (m i) 0#32) 32).one ?_))
                go_roundw
                case rel => exact ⟨k / 2, x2, (fun i => apply m 32 (m i) 0#32), by omega, rfl, rfl, setRow_heap _ _ _ _ _ _ HBK.out, below_setRow HBL.out (Nat.le_refl _) _, HT.out⟩
                case measure => simp [intOf]; omega

          · have hq : (k % 2 == 1) = false := by simp [hodd]
            go_upto_region 18 with fail
            have HBK0 := HBK
            have HT : Hid (rjoinL (k / 2).toNat x (fun i => apply m 32 (m i) 0#32) (k / 2).toNat ^^^ b = J) := by
              have h := HF.out
              rw [rjoinL_step k.toNat (by omega), if_neg (by omega), show k.toNat / 2 = (k / 2).toNat by omega] at h
              exact h
            clear HF
            generalize x = x2 at HT ⊢
            have HBK := Lib.hid (HBK.out.alloc (Obj.cells #[.int .u32 0, .int .u32 0, .int .u32 0, .int .u32 0, .int .u32 0, .int .u32 0, .int .u32 0, .int .u32 0, .int .u32 0, .int .u32 0, .int .u32 0, .int .u32 0, .int .u32 0, .int .u32 0, .int .u32 0, .int .u32 0, .int .u32 0, .int .u32 0, .int .u32 0, .int .u32 0, .int .u32 0, .int .u32 0, .int .u32 0, .int .u32 0, .int .u32 0, .int .u32 0, .int .u32 0, .int .u32 0, .int .u32 0, .int .u32 0, .int .u32 0, .int .u32 0] 147))
            have HBL := Lib.hid (HBL.out.alloc HSZ.out (Obj.cells #[.int .u32 0, .int .u32 0, .int .u32 0, .int .u32 0, .int .u32 0, .int .u32 0, .int .u32 0, .int .u32 0, .int .u32 0, .int .u32 0, .int .u32 0, .int .u32 0, .int .u32 0, .int .u32 0, .int .u32 0, .int .u32 0, .int .u32 0, .int .u32 0, .int .u32 0, .int .u32 0, .int .u32 0, .int .u32 0, .int .u32 0, .int .u32 0, .int .u32 0, .int .u32 0, .int .u32 0, .int .u32 0, .int .u32 0, .int .u32 0, .int .u32 0, .int .u32 0] 147))
            have HZ := Lib.hid (Blk.new wr #[.int .u32 0, .int .u32 0, .int .u32 0, .int .u32 0, .int .u32 0, .int .u32 0, .int .u32 0, .int .u32 0, .int .u32 0, .int .u32 0, .int .u32 0, .int .u32 0, .int .u32 0, .int .u32 0, .int .u32 0, .int .u32 0, .int .u32 0, .int .u32 0, .int .u32 0, .int .u32 0, .int .u32 0, .int .u32 0, .int .u32 0, .int .u32 0, .int .u32 0, .int .u32 0, .int .u32 0, .int .u32 0, .int .u32 0, .int .u32 0, .int .u32 0, .int .u32 0] 147)
            have HNE : Hid (g ≠ wr.heap.size ∧ g ≤ wr.heap.size) := ⟨by have h := HBK0.out.lt; omega, HSZ.out⟩
            have HW2 : Hid (Words #[.int .u32 0, .int .u32 0, .int .u32 0, .int .u32 0, .int .u32 0, .int .u32 0, .int .u32 0, .int .u32 0, .int .u32 0, .int .u32 0, .int .u32 0, .int .u32 0, .int .u32 0, .int .u32 0, .int .u32 0, .int .u32 0, .int .u32 0, .int .u32 0, .int .u32 0, .int .u32 0, .int .u32 0, .int .u32 0, .int .u32 0, .int .u32 0, .int .u32 0, .int .u32 0, .int .u32 0, .int .u32 0, .int .u32 0, .int .u32 0, .int .u32 0, .int .u32 0] 32 (fun i => apply m 32 (m i) 0#32) 0) := ⟨rfl, fun i hi => by omega, by kernel_rfl⟩
            generalize wr.heap.size = g2 at HZ HNE ⊢
            generalize (#[.int .u32 0, .int .u32 0, .int .u32 0, .int .u32 0, .int .u32 0, .int .u32 0, .int .u32 0, .int .u32 0, .int .u32 0, .int .u32 0, .int .u32 0, .int .u32 0, .int .u32 0, .int .u32 0, .int .u32 0, .int .u32 0, .int .u32 0, .int .u32 0, .int .u32 0, .int .u32 0, .int .u32 0, .int .u32 0, .int .u32 0, .int .u32 0, .int .u32 0, .int .u32 0, .int .u32 0, .int .u32 0, .int .u32 0, .int .u32 0, .int .u32 0, .int .u32 0] : Array Value) = zs at HBK HBL HZ HW2 ⊢
            generalize wr.alloc (Obj.cells zs 147) = W3 at HBK HBL HZ ⊢

            go_wp2_with (first
              | (refine wpList_load_row rfl 147 (.tmp 7) rfl g rfl 147 (word0 m 32) (0, 0) (.array 32 38) HBK.out Try.underlying147 rfl (by rw [(words0 m 32).size]; kernel_rfl) ?_))
            go_loopw [40] (fun i W => ∃ (j : Nat) (cs2 : Array Value), j ≤ 32 ∧ i = .int .i64 j ∧ Words cs2 32 (fun i => apply m 32 (m i) 0#32) j ∧ Blk W g2 cs2 147 ∧ Blk W g (word0 m 32) 147 ∧ Below g w W) (fun i _ => 32 - (intOf i).toNat)
            case atStart => exact ⟨0, zs, by omega, rfl, HW2.out, HZ.out, HBK.out, HBL.out⟩
            case round =>
              clear HW2 HZ HBK HBL HSZ HBK0
              obtain ⟨j, cs2, hj, rfl, hws, hz, hbk, hbl⟩ := hrel
              have HWS := Lib.hid hws
              have HZ := Lib.hid hz
              have HBK := Lib.hid hbk
              have HBL := Lib.hid hbl
              have HSZ : Hid (g ≤ wr.heap.size) := by have := hbk.lt; show g ≤ _; omega
              clear hws hz hbk hbl
              by_cases hlt : j < 32
              · have hq3 : decide ((j : Int) < 32) = true := by simp; omega
                have hat := fun W : World => run_index_agg (P := Try.prog) W 147 38 32 (word0 m 32) j _ Try.underlying147 Try.underlying38 rfl (by kernel_rfl) hlt ((words0 m 32).at_ j hlt)
                go_wp2_with (first
                  | (refine wpList_load_row rfl 147 (.tmp 7) rfl g rfl 147 (word0 m 32) (0, 0) (.array 32 38) HBK.out Try.underlying147 rfl (by rw [(words0 m 32).size]; kernel_rfl) ?_)
                  | (go_at_call 94; ((with_reducible refine (apply_any m (m j) _).mono ?_)); rintro e w1 ⟨rfl, hb1⟩; have HZ := Lib.hid (blk_below hb1 HZ.out); have hc := HZ.out.cell j (by rw [Array.getElem?_eq_getElem (by rw [HWS.out.size]; exact hlt)]); have hfz := HZ.out.free j; have HBK := Lib.hid (blk_below hb1 HBK.out); have HBL := Lib.hid (HBL.out.trans (hb1.mono HSZ.out)); have HSZ := Lib.hid (Nat.le_trans HSZ.out hb1.size); clear hb1))
                go_roundw
                case rel => exact ⟨j + 1, _, by omega, by go_num, HWS.out.set hlt, HZ.out.set j _, HBK.out.other HNE.out.1 _, HBL.out.setCell HNE.out.2 _⟩
                case measure => simp [intOf]; omega
              · obtain rfl : j = 32 := by omega
                have hwe := HWS.out.eq
                subst hwe
                clear HWS
                go_wp2_with (first
                  | (refine wpList_load_row rfl 147 (.tmp 11) rfl g2 rfl 147 (word0 (fun i => apply m 32 (m i) 0#32) 32) (0, 0) (.array 32 38) HZ.out Try.underlying147 rfl (by rw [(words0 (fun i => apply m 32 (m i) 0#32) 32).size]; kernel_rfl) ?_)
                  | (refine wpList_store_row rfl 147 (.tmp 7) (.tmp 51) rfl g (word0 (fun i => apply m 32 (m i) 0#32) 32) rfl rfl 147 (word0 m 32) HBK.out (by rw [(words0 (fun i => apply m 32 (m i) 0#32) 32).size]; kernel_rfl) (by rw [(words0 (fun i => apply m 32 (m i) 0#32) 32).size, (words0 m 32).size]) (words0 (fun i => apply m 32 (m i) 0#32) 32).one ?_))
                go_roundw
                case rel => exact ⟨k / 2, x2, (fun i => apply m 32 (m i) 0#32), by omega, rfl, rfl, setRow_heap _ _ _ _ _ _ HBK.out, below_setRow HBL.out (Nat.le_refl _) _, HT.out⟩
                case measure => simp [intOf]; omega

end Go.Proofs.Ytfeddgeihpfjfaa
