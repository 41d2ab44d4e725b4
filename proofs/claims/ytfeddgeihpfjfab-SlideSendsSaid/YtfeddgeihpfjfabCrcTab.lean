/- The table of package crc, and its sum. -/
import Derived.Test.YtfeddgeihpfjfabCrcWalk
import Derived.Laws.CopyOwn
set_option linter.unusedSimpArgs false
set_option linter.unusedVariables false
namespace Go.Proofs.Ytfeddgeihpfjfab
open Go.RowKit Crc

/-- An array of n words. -/
structure Words (cs : Array Value) (n : Nat) (f : Nat → W) (k : Nat) : Prop where
  size : cs.size = n
  at_ : ∀ i, i < k → cs[i]? = some (U (f i))
  one : cs.all (·.oneCell') = true
theorem all_set {cs : Array Value} (h : cs.all (·.oneCell') = true) (k : Nat) (v : Value) (hv : v.oneCell' = true) : (cs.setIfInBounds k v).all (·.oneCell') = true := by
  rw [Array.all_eq_true_iff_forall_mem] at *
  intro x hx
  rcases Array.mem_or_eq_of_mem_setIfInBounds hx with h1 | h1
  · exact h x h1
  · rw [h1]; exact hv
theorem Words.set {cs : Array Value} {n k : Nat} {f : Nat → W} (h : Words cs n f k) (hk : k < n) : Words (cs.setIfInBounds k (U (f k))) n f (k + 1) := by
  refine ⟨by simp [h.size], fun i hi => ?_, all_set h.one _ _ rfl⟩
  by_cases e : i = k
  · subst e; simp [h.size, hk]
  · rw [Array.getElem?_setIfInBounds_ne (by omega)]; exact h.at_ i (by omega)
def word0 (f : Nat → W) (n : Nat) : Array Value := ((List.range n).map fun i => U (f i)).toArray
theorem Words.eq {cs : Array Value} {n : Nat} {f : Nat → W} (h : Words cs n f n) : cs = word0 f n := by
  apply Array.ext
  · simp [word0, h.size]
  · intro i h1 h2
    have := h.at_ i (by rw [← h.size]; exact h1)
    rw [Array.getElem?_eq_getElem h1] at this
    injection this with this
    rw [this]
    simp [word0]
theorem words0 (f : Nat → W) (n : Nat) : Words (word0 f n) n f n := by
  refine ⟨by simp [word0], fun i hi => by simp [word0, hi], ?_⟩
  rw [Array.all_eq_true_iff_forall_mem]
  intro x hx
  simp [word0] at hx
  obtain ⟨i, _, rfl⟩ := hx
  rfl

def tabW (i : Nat) : W := hpow 8 (BitVec.ofNat 32 i)

set_option maxRecDepth 100000 in
theorem table_any (w : World) :
    Calls Try.prog 118 #[] w fun e w' => e = .returned (.agg (word0 tabW 256)) ∧ Below w.heap.size w w' := by
  have HZ : Hid (Words Try.zeroCells195 256 tabW 0) := ⟨by kernel_rfl, fun i hi => by omega, by kernel_rfl⟩
  go_enter Try.func118, Try.ntmps118
  go_wp2
  go_loopw [3] (fun i W => ∃ (k : Nat) (cs : Array Value), k ≤ 256 ∧ i = .int .i64 k ∧ Words cs 256 tabW k ∧ Blk W w.heap.size cs 195 ∧ Below w.heap.size w W) (fun i _ => 256 - (intOf i).toNat)
  case atStart => exact ⟨0, _, by omega, rfl, HZ.out, Blk.new w _ _, (Below.refl _ _).alloc (Nat.le_refl _) _⟩
  case round =>
    clear HZ
    obtain ⟨k, cs, hk, rfl, hws, hblk, hbel⟩ := hrel
    have HWS := Lib.hid hws
    have HBK := Lib.hid hblk
    have HBL := Lib.hid hbel
    clear hws hblk hbel
    by_cases hlt : k < 256
    · have hq : decide ((k : Int) < 256) = true := by simp; omega
      go_wp2
      go_loop [2, 8] (fun c i => ∃ (j : Nat) (x : W), j ≤ 8 ∧ i = .int .i64 j ∧ c = U x ∧ hpow (8 - j) x = tabW k) (fun _ i => 8 - (intOf i).toNat)
      case atStart => exact ⟨0, BitVec.ofNat 32 k, by omega, rfl, by show Value.int .u32 (k : Int) = .int .u32 (wn _); rw [wn_const k (by omega)], rfl⟩
      case round =>
        obtain ⟨j, x, hj, rfl, rfl, hf⟩ := hrel
        have HF := Lib.hid hf
        clear hf
        by_cases hlt2 : j < 8
        · go_wp2_with (go_at_call 129; ((with_reducible refine (half_any _ _).mono ?_)); rintro e w1 ⟨rfl, rfl⟩)
          go_round
          case rel =>
            refine ⟨j + 1, half x, by omega, by go_num, rfl, ?_⟩
            rw [← HF.out, show 8 - j = 8 - (j + 1) + 1 by omega]; rfl
          case measure => simp [intOf]; omega
        · obtain rfl : j = 8 := by omega
          have hxe : x = tabW k := HF.out
          clear HF
          subst hxe
          have hc : wr.cell? ⟨w.heap.size, k, none⟩ = some (cs[k]'(by rw [HWS.out.size]; exact hlt)) := HBK.out.cell k (by rw [Array.getElem?_eq_getElem (by rw [HWS.out.size]; exact hlt)])
          have hfz := HBK.out.free k
          go_wp2
          go_roundw
          case rel =>
            exact ⟨k + 1, _, by omega, by go_num, HWS.out.set hlt, HBK.out.set k _, HBL.out.setCell (Nat.le_refl _) _⟩
          case measure => simp [intOf]; omega
    · obtain rfl : k = 256 := by omega
      have hwe := HWS.out.eq
      subst hwe
      go_wp2_with (first
        | (refine wpList_load_row rfl 195 (.tmp 0) rfl w.heap.size rfl 195 (word0 tabW 256) (0, 0) (.array 256 166) HBK.out Try.underlying195 rfl (by rw [HWS.out.size]; kernel_rfl) ?_)
        | (refine wpList_store_row rfl 195 (.tmp 0) (.tmp 17) rfl w.heap.size (word0 tabW 256) rfl rfl 195 (word0 tabW 256) HBK.out (by rw [HWS.out.size]; kernel_rfl) rfl HWS.out.one ?_))
      rw [setRow_self _ _ _ _ _ HBK.out]
      refine bodyPost_ret (v := .agg (word0 tabW 256)) (results_cell_row (fn := Try.f118) (p := 0) (ty := 195) rfl _ _ w.heap.size 195 _ (0, 0) (.array 256 166) rfl HBK.out Try.underlying195 rfl (by rw [HWS.out.size]; kernel_rfl)) rfl ⟨rfl, HBL.out⟩

/-- A byte picks a word of the table. -/
theorem tab_step (c : W) (b : UInt8) : tabW ((c ^^^ wd b) &&& 255#32).toNat = hpow 8 ((c ^^^ wd b) &&& 255#32) := by
  unfold tabW; rw [BitVec.ofNat_toNat, BitVec.setWidth_eq]

set_option maxRecDepth 100000 in
set_option maxHeartbeats 1000000 in
theorem sum_any (s : ByteArray) (hs : s.size ≤ 9223372036854775807) (w : World) :
    Calls Try.prog 101 #[.string s] w fun e w' => e = .returned (U (sum s.data.toList)) ∧ Below w.heap.size w w' := by
  go_enter Try.func101, Try.ntmps101
  go_wp2_with (first
    | (go_at_call 118; ((with_reducible refine (table_any _).mono ?_)); rintro e w1 ⟨rfl, hb1⟩; have HB1 := Lib.hid hb1; clear hb1)
    | (refine wpList_store_row rfl 195 (.tmp 4) (.tmp 6) rfl _ (word0 tabW 256) rfl rfl 195 Try.zeroCells195 (Blk.new _ _ _) (by rw [(words0 tabW 256).size]; kernel_rfl) (by rw [(words0 tabW 256).size]; kernel_rfl) (words0 tabW 256).one ?_))
  have HBK : Hid (Blk ((w1.alloc (Obj.cells Try.zeroCells195 195)).setRow w1.heap.size (word0 tabW 256)) w1.heap.size (word0 tabW 256) 195) := setRow_heap _ _ _ _ _ _ (Blk.new _ _ _)
  have HBL : Hid (Below w.heap.size w ((w1.alloc (Obj.cells Try.zeroCells195 195)).setRow w1.heap.size (word0 tabW 256))) :=
    below_setRow (HB1.out.alloc HB1.out.size _) HB1.out.size _
  generalize (w1.alloc (Obj.cells Try.zeroCells195 195)).setRow w1.heap.size (word0 tabW 256) = W2 at HBK HBL ⊢
  generalize w1.heap.size = g at HBK ⊢
  clear HB1
  go_loop [3, 9] (fun c i => ∃ k : Nat, k ≤ s.size ∧ i = .int .i64 k ∧ c = U (reg 0xffffffff#32 (s.data.toList.take k))) (fun _ i => s.size - (intOf i).toNat)
  case atStart => exact ⟨0, Nat.zero_le _, rfl, rfl⟩
  case round =>
    obtain ⟨k, hk, rfl, rfl⟩ := hrel
    generalize hc0 : reg 0xffffffff#32 (s.data.toList.take k) = c
    have HC := Lib.hid hc0
    clear hc0
    have hc1 := wn_lt c
    have hc2 := wn_ge c
    by_cases hlt : k < s.size
    · have hm := tabAt_lt c s[k]
      have ht := tab_word c s[k]
      have HT : Hid (tabAt c s[k] = ((c ^^^ wd s[k]) &&& 255#32).toNat) := rfl
      generalize tabAt c s[k] = m at hm ht HT
      have hcell := HBK.out.cell m ((words0 tabW 256).at_ m hm)
      have h8 := shr8_word c
      have hx := xor_word (c >>> 8) (tabW m)
      go_wp2
      go_round
      case rel =>
        refine ⟨k + 1, by omega, by go_num, ?_⟩
        rw [List.take_succ_eq_append_getElem (by simpa using hlt), reg_snoc, HC.out]
        show _ = U (Crc.step c s[k])
        rw [Crc.step, ← tab_step, ← HT.out]
      case measure => simp [intOf]; omega
    · obtain rfl : k = s.size := by omega
      have hnb : bits .xor .u32 (if IntKind.u32.signed = true then -1 else IntKind.u32.max) (wn c) = wn (~~~c) := not_bits c
      go_wp2
      go_ret
      refine ⟨?_, HBL.out⟩
      have hc := HC.out
      rw [List.take_of_length_le (by simp)] at hc
      rw [sum, hc]; rfl
end Go.Proofs.Ytfeddgeihpfjfab
