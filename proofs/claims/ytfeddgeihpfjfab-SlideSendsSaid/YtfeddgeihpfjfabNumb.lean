/- R.Numbered: a frame with a number. -/
import Derived.Test.YtfeddgeihpfjfabCrcOpen
set_option linter.unusedSimpArgs false
set_option linter.unusedVariables false
namespace Go.Proofs.Ytfeddgeihpfjfab
open Go.RowKit Crc

theorem conv_two {P : Program} (w : World) (src e dst : TypeId) (hs : P.underlying src = some (.slice e)) (he : P.underlying e = some (.int .u8)) (hd : P.underlying dst = some .string) (g : Nat) (x y : Int)
    (hx : w.cell? ⟨g, 0, none⟩ = some (.int .u8 x)) (hy : w.cell? ⟨g, 1, none⟩ = some (.int .u8 y)) :
    (convert src dst (.slice (some ⟨g, 0, none⟩) 2 2)).run P w = .ok (.string (bs [UInt8.ofNat x.toNat, UInt8.ofNat y.toNat])) w :=
  run_convert_bytes_arg (P := P) w src e hs he g 0 2 2 [x, y] rfl (fun i hi => by match i, hi with | 0, _ => exact hx | 1, _ => exact hy) dst hd
theorem byte64 (b : UInt8) : wrap64 (b.toNat : Int) = (b.toNat : Int) := by have := b.toNat_lt; unfold wrap64; omega
theorem bs_get (l : List UInt8) (i : Nat) (h : i < (bs l).size) : (bs l)[i] = l.getD i 0 := by
  have h' : i < l.length := h
  simp [List.getD_eq_getElem?_getD, h']; rfl

def byteOf (n : Int) : UInt8 := UInt8.ofNat (n % 256).toNat
theorem byteOf_nat (n : Nat) (h : n < 256) : byteOf (n : Int) = UInt8.ofNat n := by
  unfold byteOf; rw [show ((n : Int) % 256).toNat = n by omega]

set_option maxRecDepth 100000 in
theorem numbered_any (kind body : ByteArray) (c : UInt8) (hk : kind = bs [c]) (n : Int) (hs : body.size ≤ 100000000000000) (w : World) :
    Calls Try.prog 19 #[.string kind, .int .i64 n, .string body] w fun e w' => e = .returned (.string (bs (sealed (c :: byteOf n :: body.data.toList)))) ∧ Below w.heap.size w w' := by
  have hz1 : kind.size = 1 := by rw [hk]; rfl
  have hcv := fun (W : World) (g : Nat) (h : W.cell? ⟨g, 0, none⟩ = some (.int .u8 (n % 256))) => conv_one (P := Try.prog) W 113 5 9 Try.underlying113 Try.underlying5 Try.underlying9 g _ h
  have hz2 : (bs [UInt8.ofNat (n % 256).toNat]).size = 1 := rfl
  have HS : Hid (∀ W : World, Calls Try.prog 62 #[.string (kind ++ bs [UInt8.ofNat (n % 256).toNat] ++ body)] W fun e w' => e = .returned (.string (bs (sealed (c :: byteOf n :: body.data.toList)))) ∧ Below W.heap.size W w') := fun W => by
    have e : kind ++ bs [UInt8.ofNat (n % 256).toNat] ++ body = bs (c :: byteOf n :: body.data.toList) := by
      conv => lhs; rw [← bs_list body]
      rw [hk, bs_append, bs_append]; rfl
    have h := refSealed_any (bs (c :: byteOf n :: body.data.toList)) (by rw [bs_size]; have : body.data.toList.length = body.size := rfl; simp only [List.length_cons, this]; omega) W
    rw [e]; exact h
  generalize bs (sealed (c :: byteOf n :: body.data.toList)) = r at HS ⊢
  generalize bs [UInt8.ofNat (n % 256).toNat] = t1 at HS hcv hz2
  clear hk
  have hn0 : (w.alloc (.cells #[.int .u8 (n % 256)] 5)).cell? ⟨w.heap.size, 0, none⟩ = some (.int .u8 (n % 256)) := (Blk.new w _ _).cell 0 rfl
  go_enter Try.func19, Try.ntmps19
  go_wp2_with (go_at_call 62; ((with_reducible refine (HS.out _).mono ?_)); rintro e w2 ⟨rfl, hb2⟩; have HB2 := Lib.hid hb2; clear hb2)
  go_ret
  exact ⟨rfl, below_of_alloc' HB2.out⟩
end Go.Proofs.Ytfeddgeihpfjfab
