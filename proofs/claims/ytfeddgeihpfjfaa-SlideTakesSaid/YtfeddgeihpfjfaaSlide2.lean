/- The receiving end as a whole; the reference's. -/
import Derived.Test.YtfeddgeihpfjfaaSlide
set_option linter.unusedSimpArgs false
set_option linter.unusedVariables false
namespace Go.Proofs.Ytfeddgeihpfjfaa
open Go.RowKit Crc

theorem ofKind {md : Nat} (h : md = 8 ∨ md = 16) : 0 < md ∧ md < 256 := by omega

theorem recv_any (g md got : Nat) (hm : md = 8 ∨ md = 16) (t : ByteArray) (ht : t.size ≤ 140737488351232) (w : World) (hg : Blk w g #[.int .i64 md, .int .i64 ((got % md : Nat) : Int)] 152) :
    Calls Try.prog 37 #[.pointer (some ⟨g, 0, none⟩), .string t] w fun e w' => e = .returned (tookV (takeS md got t.data.toList)) ∧
      Blk w' g #[.int .i64 md, .int .i64 (((takeS md got t.data.toList).got % md : Nat) : Int)] 152 ∧ Fr (· = g) w w' := by
  obtain ⟨h0, h1⟩ := ofKind hm
  by_cases he : (openS t.data.toList).2 = 0
  · by_cases hf : goodForm md (openS t.data.toList).1
    · by_cases hn : ((openS t.data.toList).1.getD 1 0).toNat = got % md
      · have hE : takeS md got t.data.toList = ⟨(openS t.data.toList).1.drop 2, true, ackOf ((got + 1) % md), 0, got + 1⟩ := by
          simp only [takeS]; rw [if_neg (by simp [he]), if_neg (by simp [hf]), if_pos hn]
        rw [hE]
        exact recv_fresh g md got t ht he hf hn h1 h0 w hg
      · have hE : takeS md got t.data.toList = ⟨[], false, ackOf (got % md), 0, got⟩ := by
          simp only [takeS]; rw [if_neg (by simp [he]), if_neg (by simp [hf]), if_neg hn]
        rw [hE]
        exact (recv_old g md got t ht he hf hn h1 h0 w hg).mono fun e w' ⟨h1, h2⟩ => ⟨h1, blk_below h2 hg, Fr.of_below h2⟩
    · have hE : takeS md got t.data.toList = ⟨[], false, [], 3, got⟩ := by
        simp only [takeS]; rw [if_neg (by simp [he]), if_pos hf]
      rw [hE]
      exact (recv_form g md _ t ht he hf (by omega) w hg).mono fun e w' ⟨h1, h2⟩ => ⟨h1, blk_below h2 hg, Fr.of_below h2⟩
  · have hE : takeS md got t.data.toList = ⟨[], false, [], (openS t.data.toList).2, got⟩ := by
      simp only [takeS]; rw [if_pos he]
    rw [hE]
    exact (recv_err g t ht he w hg.lt).mono fun e w' ⟨h1, h2⟩ => ⟨h1, blk_below h2 hg, Fr.of_below h2⟩

/-! ### The reference -/
def byteOf (n : Int) : UInt8 := UInt8.ofNat (n % 256).toNat
theorem byteOf_nat (n : Nat) (h : n < 256) : byteOf (n : Int) = UInt8.ofNat n := by
  unfold byteOf; rw [show ((n : Int) % 256).toNat = n by omega]

set_option maxRecDepth 100000 in
theorem numbered_any (kind body : ByteArray) (c : UInt8) (hk : kind = bs [c]) (n : Int) (hs : body.size ≤ 100000000000000) (w : World) :
    Calls Try.prog 36 #[.string kind, .int .i64 n, .string body] w fun e w' => e = .returned (.string (bs (sealed (c :: byteOf n :: body.data.toList)))) ∧ Below w.heap.size w w' := by
  have hz1 : kind.size = 1 := by rw [hk]; rfl
  have hcv := fun (W : World) (g : Nat) (h : W.cell? ⟨g, 0, none⟩ = some (.int .u8 (n % 256))) => conv_one (P := Try.prog) W 126 5 9 Try.underlying126 Try.underlying5 Try.underlying9 g _ h
  have hz2 : (bs [UInt8.ofNat (n % 256).toNat]).size = 1 := rfl
  have HS : Hid (∀ W : World, Calls Try.prog 33 #[.string (kind ++ bs [UInt8.ofNat (n % 256).toNat] ++ body)] W fun e w' => e = .returned (.string (bs (sealed (c :: byteOf n :: body.data.toList)))) ∧ Below W.heap.size W w') := fun W => by
    have e : kind ++ bs [UInt8.ofNat (n % 256).toNat] ++ body = bs (c :: byteOf n :: body.data.toList) := by
      conv => lhs; rw [← bs_list body]
      rw [hk, bs_append, bs_append]; rfl
    have h := refSealed_any (bs (c :: byteOf n :: body.data.toList)) (by rw [bs_size]; have : body.data.toList.length = body.size := rfl; simp only [List.length_cons, this]; omega) W
    rw [e]; exact h
  generalize bs (sealed (c :: byteOf n :: body.data.toList)) = r at HS ⊢
  generalize bs [UInt8.ofNat (n % 256).toNat] = t1 at HS hcv hz2
  clear hk
  have hn0 : (w.alloc (.cells #[.int .u8 (n % 256)] 5)).cell? ⟨w.heap.size, 0, none⟩ = some (.int .u8 (n % 256)) := (Blk.new w _ _).cell 0 rfl
  go_enter Try.func36, Try.ntmps36
  go_wp2_with (go_at_call 33; ((with_reducible refine (HS.out _).mono ?_)); rintro e w2 ⟨rfl, hb2⟩; have HB2 := Lib.hid hb2; clear hb2)
  go_ret
  exact ⟨rfl, below_of_alloc' HB2.out⟩
end Go.Proofs.Ytfeddgeihpfjfaa
