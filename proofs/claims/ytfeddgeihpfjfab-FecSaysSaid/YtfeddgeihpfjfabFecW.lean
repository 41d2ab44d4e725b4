/- The code word of a value: the machine side of fec.word. -/
import Derived.Test.YtfeddgeihpfjfabProg
import Derived.Test.YtfeddgeihpfjfabBinS
import Derived.Lib.SlBytesConst
import Derived.Outline
import Derived.Deep.QuietTactic
import Derived.BigQuiet
set_option linter.unusedVariables false
set_option linter.unusedSimpArgs false
namespace Go.Proofs.Ytfeddgeihpfjfab
open Go.RowKit

def encB (xs : List Int) : Array Value := (xs.map fun x => Value.int .u8 x).toArray
/-- A block with the mark of a constant's bytes. -/
def BlkM (w : World) (g : Nat) (cs : Array Value) (T : TypeId) (a b : Nat) : Prop := w.heap[g]? = some (.cells cs T (a, b))
namespace BlkM
variable {w : World} {g a b : Nat} {cs : Array Value} {T : TypeId}
theorem lt (h : BlkM w g cs T a b) : g < w.heap.size := lt_of_block h
theorem cell (h : BlkM w g cs T a b) (i : Nat) {v : Value} (hv : cs[i]? = some v) : w.cell? ⟨g, i, none⟩ = some v := by
  unfold BlkM at h; simp [World.cell?, h, hv]
theorem free (h : BlkM w g cs T a b) (i : Nat) (hi : i < a) : w.frozen? ⟨g, i, none⟩ = false := by
  unfold BlkM at h; simp [World.frozen?, h]; omega
theorem set (h : BlkM w g cs T a b) (i : Nat) (v : Value) : BlkM (w.setCell ⟨g, i, none⟩ v) g (cs.setIfInBounds i v) T a b := by
  unfold BlkM at *
  have hlt := lt_of_block h
  have h' : w.heap[g] = .cells cs T (a, b) := by simpa [Array.getElem?_eq_getElem hlt] using h
  show (w.heap.modify g _)[g]? = _
  rw [Array.getElem?_eq_getElem (by simpa using hlt), Array.getElem_modify_self, h']
  rfl
theorem other (h : BlkM w g cs T a b) {p : Addr} (hp : g ≠ p.block) (v : Value) : BlkM (w.setCell p v) g cs T a b := by
  unfold BlkM at *
  rw [Below.heap_setCell _ _ _ _ hp]; exact h
theorem alloc (h : BlkM w g cs T a b) (o : Obj) : BlkM (w.alloc o) g cs T a b := by
  have hlt := h.lt
  unfold BlkM at *
  rw [Below.heap_alloc _ _ _ hlt]; exact h
end BlkM

/-- One step of the first loop, and of the second. -/
def bitOf (n : Int) (i : Nat) : Bool := decide (Go.bits .and .i64 (n / 2 ^ i) 1 = 1)
def wst (n : Int) : Nat → List Int × Int
  | 0 => ([48, 48, 48, 48, 48, 48, 48], 0)
  | i + 1 => if bitOf n (3 - i) then ((wst n i).1.set ([2, 4, 5, 6].getD i 0) 49, Go.bits .xor .i64 (wst n i).2 ([3, 5, 6, 7].getD i 0)) else wst n i
def vst (xs : List Int) (p : Int) : Nat → List Int
  | 0 => xs
  | i + 1 => if bitOf p i then (vst xs p i).set ([0, 1, 3].getD i 0) 49 else vst xs p i
def wordL (n : Int) : List Int := vst (wst n 4).1 (wst n 4).2 3

theorem encB_set (xs : List Int) (i : Nat) (x : Int) : encB (xs.set i x) = (encB xs).setIfInBounds i (.int .u8 x) := by
  unfold encB
  rw [List.map_set]
  simp [List.setIfInBounds_toArray]
theorem wst_len (n : Int) (i : Nat) : (wst n i).1.length = 7 := by
  induction i with
  | zero => rfl
  | succ i ih => simp only [wst]; split <;> simp [ih]

theorem n16 {n : Int} (h0 : 0 ≤ n) (h1 : n ≤ 15) : n = 0 ∨ n = 1 ∨ n = 2 ∨ n = 3 ∨ n = 4 ∨ n = 5 ∨ n = 6 ∨ n = 7 ∨ n = 8 ∨ n = 9 ∨ n = 10 ∨ n = 11 ∨ n = 12 ∨ n = 13 ∨ n = 14 ∨ n = 15 := by omega
theorem wst_par {n : Int} (h0 : 0 ≤ n) (h1 : n ≤ 15) : 0 ≤ (wst n 4).2 ∧ (wst n 4).2 ≤ 7 := by
  rcases n16 h0 h1 with h | h | h | h | h | h | h | h | h | h | h | h | h | h | h | h <;> subst h <;> decide
theorem vst_len (xs : List Int) (p : Int) (i : Nat) : (vst xs p i).length = xs.length := by
  induction i with
  | zero => rfl
  | succ i ih => simp only [vst]; split <;> simp [ih]

set_option maxRecDepth 100000 in
set_option maxHeartbeats 2000000 in
theorem fecword_any (n : Int) (w : World) (h0 : 0 ≤ n) (h1 : n ≤ 15) :
    Calls Try.prog 66 #[.int .i64 n] w fun e w' => e = .returned (.slice (some ⟨w.heap.size, 0, none⟩) 7 7) ∧ BlkM w' w.heap.size (encB (wordL n)) 5 7 8 ∧ Below w.heap.size w w' := by
  have kc := fun (w : World) (C : Array Value) (n c : Nat) => Lib.run_convert_bytes_const (P := Try.prog) w 113 5 C n c Try.underlying113 Try.underlying5
  go_enter Try.func66, Try.ntmps66
  go_wp2_with fail
  clear kc
  generalize hW : (w.alloc _).alloc _ = W0
  have HB : Hid (Below w.heap.size w W0) := by
    show Below _ _ _
    rw [← hW]
    exact ((Below.refl _ _).alloc (Nat.le_refl _) _).alloc (by simp) _
  have HG : Hid (BlkM W0 w.heap.size (encB (wst n 0).1) 5 7 8) := by
    show BlkM _ _ _ _ _ _
    rw [← hW]
    exact BlkM.alloc (show BlkM (w.alloc (.cells #[.int .u8 48, .int .u8 48, .int .u8 48, .int .u8 48, .int .u8 48, .int .u8 48, .int .u8 48] 5 (7, 8))) w.heap.size _ _ _ _ from (MapKept.heap_alloc w _).1) _
  have HL : Hid (Blk W0 (w.heap.size + 1) #[.int .i64 3, .int .i64 5, .int .i64 6, .int .i64 7] 3) := by
    show Blk _ _ _ _
    rw [← hW]
    have := Blk.new (w.alloc (.cells #[.int .u8 48, .int .u8 48, .int .u8 48, .int .u8 48, .int .u8 48, .int .u8 48, .int .u8 48] 5 (7, 8))) #[.int .i64 3, .int .i64 5, .int .i64 6, .int .i64 7] 3
    simpa using this
  clear hW
  have hz : Hid (w.heap.size + 1 < W0.heap.size) := HL.out.lt
  generalize hg : w.heap.size = g at HB HG HL hz ⊢
  have HGE := Lib.hid hg
  clear hg
  go_loopw [4, 13] (fun p i W => ∃ k : Nat, k ≤ 4 ∧ i = .int .i64 k ∧ p = .int .i64 (wst n k).2 ∧ Hid (BlkM W g (encB (wst n k).1) 5 7 8) ∧ Hid (Blk W (g + 1) #[.int .i64 3, .int .i64 5, .int .i64 6, .int .i64 7] 3) ∧ Hid (Below g w W)) (fun _ i _ => 4 - (intOf i).toNat)
  case atStart => exact ⟨0, by omega, rfl, rfl, HG, HL, HB⟩
  case round =>
    clear HB HG HL hz
    obtain ⟨k, hk, rfl, rfl, HG, HL, HB⟩ := hrel
    by_cases hlt : k < 4
    · have hst : Hid (wst n (k + 1) = if bitOf n (3 - k) then ((wst n k).1.set ([2, 4, 5, 6].getD k 0) 49, Go.bits .xor .i64 (wst n k).2 ([3, 5, 6, 7].getD k 0)) else wst n k) := rfl
      obtain rfl | rfl | rfl | rfl : k = 0 ∨ k = 1 ∨ k = 2 ∨ k = 3 := by omega
      · have c0 := HL.out.cell 0 rfl
        have f0 := HG.out.free 2 (by omega)
        obtain ⟨v, hv⟩ : ∃ v, wr.cell? ⟨g, 2, none⟩ = some v := ⟨_, HG.out.cell 2 (v := (encB (wst n 0).1)[2]'(by simp [encB, wst_len])) (by simp [encB, wst_len])⟩
        by_cases hb : (Go.bits .and .i64 (n / 8) 1 == 1) = true
        · have HE : Hid (wst n (0 + 1) = ((wst n 0).1.set 2 49, Go.bits .xor .i64 (wst n 0).2 3)) := hst.out.trans (if_pos (by simpa [bitOf] using hb))
          clear hst
          go_wp2
          go_roundw
          case rel => exact ⟨0 + 1, by omega, rfl, by rw [HE.out], by show BlkM _ _ _ _ _ _; rw [HE.out, encB_set]; exact HG.out.set 2 _, HL.out.other (by show g + 1 ≠ g; omega) _, HB.out.setCell (Nat.le_refl g) _⟩
          case measure => simp [intOf]
        · have HE : Hid (wst n (0 + 1) = wst n 0) := hst.out.trans (if_neg (by simpa [bitOf] using hb))
          have hb' : (Go.bits .and .i64 (n / 8) 1 == 1) = false := by simpa using hb
          clear hst hb
          go_wp2
          go_roundw
          case rel => exact ⟨0 + 1, by omega, rfl, by rw [HE.out], by show BlkM _ _ _ _ _ _; rw [HE.out]; exact HG.out, HL.out, HB.out⟩
          case measure => simp [intOf]
      · have c0 := HL.out.cell 1 rfl
        have f0 := HG.out.free 4 (by omega)
        obtain ⟨v, hv⟩ : ∃ v, wr.cell? ⟨g, 4, none⟩ = some v := ⟨_, HG.out.cell 4 (v := (encB (wst n 1).1)[4]'(by simp [encB, wst_len])) (by simp [encB, wst_len])⟩
        by_cases hb : (Go.bits .and .i64 (n / 4) 1 == 1) = true
        · have HE : Hid (wst n (1 + 1) = ((wst n 1).1.set 4 49, Go.bits .xor .i64 (wst n 1).2 5)) := hst.out.trans (if_pos (by simpa [bitOf] using hb))
          clear hst
          go_wp2
          go_roundw
          case rel => exact ⟨1 + 1, by omega, rfl, by rw [HE.out], by show BlkM _ _ _ _ _ _; rw [HE.out, encB_set]; exact HG.out.set 4 _, HL.out.other (by show g + 1 ≠ g; omega) _, HB.out.setCell (Nat.le_refl g) _⟩
          case measure => simp [intOf]
        · have HE : Hid (wst n (1 + 1) = wst n 1) := hst.out.trans (if_neg (by simpa [bitOf] using hb))
          have hb' : (Go.bits .and .i64 (n / 4) 1 == 1) = false := by simpa using hb
          clear hst hb
          go_wp2
          go_roundw
          case rel => exact ⟨1 + 1, by omega, rfl, by rw [HE.out], by show BlkM _ _ _ _ _ _; rw [HE.out]; exact HG.out, HL.out, HB.out⟩
          case measure => simp [intOf]
      · have c0 := HL.out.cell 2 rfl
        have f0 := HG.out.free 5 (by omega)
        obtain ⟨v, hv⟩ : ∃ v, wr.cell? ⟨g, 5, none⟩ = some v := ⟨_, HG.out.cell 5 (v := (encB (wst n 2).1)[5]'(by simp [encB, wst_len])) (by simp [encB, wst_len])⟩
        by_cases hb : (Go.bits .and .i64 (n / 2) 1 == 1) = true
        · have HE : Hid (wst n (2 + 1) = ((wst n 2).1.set 5 49, Go.bits .xor .i64 (wst n 2).2 6)) := hst.out.trans (if_pos (by simpa [bitOf] using hb))
          clear hst
          go_wp2
          go_roundw
          case rel => exact ⟨2 + 1, by omega, rfl, by rw [HE.out], by show BlkM _ _ _ _ _ _; rw [HE.out, encB_set]; exact HG.out.set 5 _, HL.out.other (by show g + 1 ≠ g; omega) _, HB.out.setCell (Nat.le_refl g) _⟩
          case measure => simp [intOf]
        · have HE : Hid (wst n (2 + 1) = wst n 2) := hst.out.trans (if_neg (by simpa [bitOf] using hb))
          have hb' : (Go.bits .and .i64 (n / 2) 1 == 1) = false := by simpa using hb
          clear hst hb
          go_wp2
          go_roundw
          case rel => exact ⟨2 + 1, by omega, rfl, by rw [HE.out], by show BlkM _ _ _ _ _ _; rw [HE.out]; exact HG.out, HL.out, HB.out⟩
          case measure => simp [intOf]
      · have c0 := HL.out.cell 3 rfl
        have f0 := HG.out.free 6 (by omega)
        obtain ⟨v, hv⟩ : ∃ v, wr.cell? ⟨g, 6, none⟩ = some v := ⟨_, HG.out.cell 6 (v := (encB (wst n 3).1)[6]'(by simp [encB, wst_len])) (by simp [encB, wst_len])⟩
        by_cases hb : (Go.bits .and .i64 (n) 1 == 1) = true
        · have HE : Hid (wst n (3 + 1) = ((wst n 3).1.set 6 49, Go.bits .xor .i64 (wst n 3).2 7)) := hst.out.trans (if_pos (by simpa [bitOf] using hb))
          clear hst
          go_wp2
          go_roundw
          case rel => exact ⟨3 + 1, by omega, rfl, by rw [HE.out], by show BlkM _ _ _ _ _ _; rw [HE.out, encB_set]; exact HG.out.set 6 _, HL.out.other (by show g + 1 ≠ g; omega) _, HB.out.setCell (Nat.le_refl g) _⟩
          case measure => simp [intOf]
        · have HE : Hid (wst n (3 + 1) = wst n 3) := hst.out.trans (if_neg (by simpa [bitOf] using hb))
          have hb' : (Go.bits .and .i64 (n) 1 == 1) = false := by simpa using hb
          clear hst hb
          go_wp2
          go_roundw
          case rel => exact ⟨3 + 1, by omega, rfl, by rw [HE.out], by show BlkM _ _ _ _ _ _; rw [HE.out]; exact HG.out, HL.out, HB.out⟩
          case measure => simp [intOf]
    · obtain rfl : k = 4 := by omega
      have hp := wst_par h0 h1
      have HX : Hid (wordL n = vst (wst n 4).1 (wst n 4).2 3) := rfl
      have HXL := Lib.hid (wst_len n 4)
      generalize (wst n 4).2 = p at hp HX ⊢
      generalize (wst n 4).1 = xs at HG HX HXL
      obtain ⟨hp0, hp1⟩ := hp
      have hsz : Hid (g + 1 < wr.heap.size) := HL.out.lt
      go_wp2_with fail
      have HG2 : Hid (BlkM (wr.alloc (.cells #[.int .i64 1, .int .i64 2, .int .i64 4] 3)) g (encB (vst xs p 0)) 5 7 8) := HG.out.alloc _
      have HL2 : Hid (Blk (wr.alloc (.cells #[.int .i64 1, .int .i64 2, .int .i64 4] 3)) wr.heap.size #[.int .i64 1, .int .i64 2, .int .i64 4] 3) := Blk.new _ _ _
      have HB2 : Hid (Below g w (wr.alloc (.cells #[.int .i64 1, .int .i64 2, .int .i64 4] 3))) := HB.out.alloc (by have := hsz.out; omega) _
      generalize wr.alloc (.cells #[.int .i64 1, .int .i64 2, .int .i64 4] 3) = W1 at HG2 HL2 HB2 ⊢
      have hne : Hid (wr.heap.size ≠ g) := by show _ ≠ _; have := hsz.out; omega
      generalize wr.heap.size = h at HL2 hne ⊢
      clear HG HL HB hsz hlt hk
      go_loopw [34] (fun i W => ∃ k : Nat, k ≤ 3 ∧ i = .int .i64 k ∧ Hid (BlkM W g (encB (vst xs p k)) 5 7 8) ∧ Hid (Blk W h #[.int .i64 1, .int .i64 2, .int .i64 4] 3) ∧ Hid (Below g w W)) (fun i _ => 3 - (intOf i).toNat)
      case atStart => exact ⟨0, by omega, rfl, HG2, HL2, HB2⟩
      case round =>
        clear HG2 HL2 HB2
        obtain ⟨k, hk, rfl, HG, HL, HB⟩ := hrel
        by_cases hlt : k < 3
        · have hst : Hid (vst xs p (k + 1) = if bitOf p k then (vst xs p k).set ([0, 1, 3].getD k 0) 49 else vst xs p k) := rfl
          obtain rfl | rfl | rfl : k = 0 ∨ k = 1 ∨ k = 2 := by omega
          · have c0 := HL.out.cell 0 rfl
            have f0 := HG.out.free 0 (by omega)
            obtain ⟨v, hv⟩ : ∃ v, wr.cell? ⟨g, 0, none⟩ = some v := ⟨_, HG.out.cell 0 (v := (encB (vst xs p 0))[0]'(by simp [encB, vst_len, HXL.out])) (by simp [encB, vst_len, HXL.out])⟩
            by_cases hb : (Go.bits .and .i64 (p) 1 == 1) = true
            · have HE : Hid (vst xs p (0 + 1) = (vst xs p 0).set 0 49) := hst.out.trans (if_pos (by simpa [bitOf] using hb))
              clear hst
              go_wp2
              go_roundw
              case rel => exact ⟨0 + 1, by omega, rfl, by show BlkM _ _ _ _ _ _; rw [HE.out, encB_set]; exact HG.out.set 0 _, HL.out.other hne.out _, HB.out.setCell (Nat.le_refl g) _⟩
              case measure => simp [intOf]
            · have HE : Hid (vst xs p (0 + 1) = vst xs p 0) := hst.out.trans (if_neg (by simpa [bitOf] using hb))
              have hb' : (Go.bits .and .i64 (p) 1 == 1) = false := by simpa using hb
              clear hst hb
              go_wp2
              go_roundw
              case rel => exact ⟨0 + 1, by omega, rfl, by show BlkM _ _ _ _ _ _; rw [HE.out]; exact HG.out, HL.out, HB.out⟩
              case measure => simp [intOf]
          · have c0 := HL.out.cell 1 rfl
            have f0 := HG.out.free 1 (by omega)
            obtain ⟨v, hv⟩ : ∃ v, wr.cell? ⟨g, 1, none⟩ = some v := ⟨_, HG.out.cell 1 (v := (encB (vst xs p 1))[1]'(by simp [encB, vst_len, HXL.out])) (by simp [encB, vst_len, HXL.out])⟩
            by_cases hb : (Go.bits .and .i64 (p / 2) 1 == 1) = true
            · have HE : Hid (vst xs p (1 + 1) = (vst xs p 1).set 1 49) := hst.out.trans (if_pos (by simpa [bitOf] using hb))
              clear hst
              go_wp2
              go_roundw
              case rel => exact ⟨1 + 1, by omega, rfl, by show BlkM _ _ _ _ _ _; rw [HE.out, encB_set]; exact HG.out.set 1 _, HL.out.other hne.out _, HB.out.setCell (Nat.le_refl g) _⟩
              case measure => simp [intOf]
            · have HE : Hid (vst xs p (1 + 1) = vst xs p 1) := hst.out.trans (if_neg (by simpa [bitOf] using hb))
              have hb' : (Go.bits .and .i64 (p / 2) 1 == 1) = false := by simpa using hb
              clear hst hb
              go_wp2
              go_roundw
              case rel => exact ⟨1 + 1, by omega, rfl, by show BlkM _ _ _ _ _ _; rw [HE.out]; exact HG.out, HL.out, HB.out⟩
              case measure => simp [intOf]
          · have c0 := HL.out.cell 2 rfl
            have f0 := HG.out.free 3 (by omega)
            obtain ⟨v, hv⟩ : ∃ v, wr.cell? ⟨g, 3, none⟩ = some v := ⟨_, HG.out.cell 3 (v := (encB (vst xs p 2))[3]'(by simp [encB, vst_len, HXL.out])) (by simp [encB, vst_len, HXL.out])⟩
            by_cases hb : (Go.bits .and .i64 (p / 4) 1 == 1) = true
            · have HE : Hid (vst xs p (2 + 1) = (vst xs p 2).set 3 49) := hst.out.trans (if_pos (by simpa [bitOf] using hb))
              clear hst
              go_wp2
              go_roundw
              case rel => exact ⟨2 + 1, by omega, rfl, by show BlkM _ _ _ _ _ _; rw [HE.out, encB_set]; exact HG.out.set 3 _, HL.out.other hne.out _, HB.out.setCell (Nat.le_refl g) _⟩
              case measure => simp [intOf]
            · have HE : Hid (vst xs p (2 + 1) = vst xs p 2) := hst.out.trans (if_neg (by simpa [bitOf] using hb))
              have hb' : (Go.bits .and .i64 (p / 4) 1 == 1) = false := by simpa using hb
              clear hst hb
              go_wp2
              go_roundw
              case rel => exact ⟨2 + 1, by omega, rfl, by show BlkM _ _ _ _ _ _; rw [HE.out]; exact HG.out, HL.out, HB.out⟩
              case measure => simp [intOf]
        · obtain rfl : k = 3 := by omega
          go_wp2_with fail
          go_ret
          rw [HGE.out]
          exact ⟨rfl, by rw [HX.out]; exact HG.out, HB.out⟩
end Go.Proofs.Ytfeddgeihpfjfab
