/- bits.Of: its walk. -/
import Derived.Test.YtfeddgeihpfjfaaBinS
import Derived.Test.YtfeddgeihpfjfaaBuild
import Derived.Test.YtfeddgeihpfjfaaPk
import Derived.OwnWalk
import Derived.Outline
set_option linter.unusedVariables false
set_option linter.unusedSimpArgs false
namespace Go.Proofs.Ytfeddgeihpfjfaa
open Go.RowKit Go.Proofs.YtfeddgeihpfjfaaW.PrintWords

/-- The bits of bytes. -/
def bitsU (l : List UInt8) : List UInt8 := l.flatMap fun c => (binS 8 c.toNat).data.toList
def intsU (l : List UInt8) : List Int := l.map fun b => (b.toNat : Int)
theorem bitsU_len (l : List UInt8) : (bitsU l).length = 8 * l.length := by
  induction l with
  | nil => rfl
  | cons c l ih =>
    have e : bitsU (c :: l) = (binS 8 c.toNat).data.toList ++ bitsU l := rfl
    have h := binS_size 8 c.toNat
    have h2 : (binS 8 c.toNat).data.toList.length = 8 := by
      have : (binS 8 c.toNat).data.toList.length = (binS 8 c.toNat).size := by simp
      omega
    rw [e, List.length_append, ih, h2]; simp; omega
theorem bitsU_snoc (s : ByteArray) (k : Nat) (h : k < s.size) : bitsU (s.data.toList.take (k + 1)) = bitsU (s.data.toList.take k) ++ (binS 8 s[k].toNat).data.toList := by
  unfold bitsU
  rw [List.take_succ_eq_append_getElem (by simpa using h), List.flatMap_append]
  simp only [List.flatMap_cons, List.flatMap_nil, List.append_nil]
  rfl
theorem strOf_ints (l : List UInt8) : strOfNums (intsU l) = ⟨l.toArray⟩ := by
  unfold strOfNums intsU
  rw [List.map_map]
  have : ((fun n : Int => UInt8.ofNat n.toNat) ∘ fun b : UInt8 => (b.toNat : Int)) = id := by
    funext b; simp
  rw [this, List.map_id]
/-- Bit j of a byte, the most significant first, as the program reckons it. -/
def ofB (c : Int) (j : Nat) : Int := (48 + Go.bits .and .u8 (c / 2 ^ (7 - j)) 1) % 256
theorem of_row (c : Nat) (h : c < 256) : intsU (binS 8 c).data.toList = (List.range 8).map (ofB c) := by
  have : ∀ c : Fin 256, intsU (binS 8 (c.val : Int)).data.toList = (List.range 8).map (ofB c.val) := by decide +kernel
  exact this ⟨c, h⟩

theorem builder_below {T e B b : Nat} {bs : List Value} {W W1 : World} (h : Lib.IsBuilder T e B b bs W) (hb : Below W.heap.size W W1) : Lib.IsBuilder T e B b bs W1 := by
  have key : ∀ p, Lib.BuilderAt T e B b p bs W → Lib.BuilderAt T e B b p bs W1 := by
    rintro p ⟨hB, v, hbk, hown, hne⟩
    exact ⟨hB, v, (hb.block b (lt_of_block hbk)).trans hbk, pw_own_below hown hb, hne⟩
  rcases h with h | h
  · exact .inl (key _ h)
  · exact .inr (key _ h)
theorem infoB8 : (Try.prog.info? 5).map (fun i => (i.zero, i.size, i.bytes)) = some (some (.int .u8 0), 1, 1) := by kernel_rfl

set_option maxRecDepth 100000 in
set_option maxHeartbeats 4000000 in
theorem of_any (s : ByteArray) (w : World) (hs : s.size ≤ 1000000) (R : ByteArray) (HR : Hid (R = ⟨(bitsU s.data.toList).toArray⟩)) :
    Calls Try.prog 73 #[.string s] w fun e w' => e = .returned (.string R) ∧ Below w.heap.size w w' := by
  obtain ⟨i0, hi, hzz⟩ := Option.map_eq_some_iff.1 infoB8
  simp only [Prod.mk.injEq] at hzz
  obtain ⟨hz0, hz1, hz2⟩ := hzz
  have HZ0 := Lib.hid hz0
  have HZ1 := Lib.hid hz1
  have HZ2 := Lib.hid hz2
  clear hz0 hz1 hz2
  go_enter Try.func73, Try.ntmps73
  go_wp2_with (at_make; refine wpList_make_own _ rfl _ _ 126 rfl w.heap.size 5 i0 (.int .u8 0) 1 Try.underlying126 hi HZ0.out HZ1.out .i64 .i64 _ (8 * s.size) rfl rfl (by first | omega | (push_cast; omega)) (by rw [HZ2.out]; omega) (by unfold maxLen; omega) (Nat.le_refl _) ?_; intro w2 hown2 hgrow2)
  have HB2 : Hid (Below w.heap.size w w2) := (Below.refl _ _).grown hgrow2 (Nat.le_refl _) (by intro k hk; cases hk)
  have HO2 := Lib.hid hown2
  clear hown2 hgrow2 hi
  go_loopw [3, 12] (fun v i W => ∃ (k : Nat) (L : List Int), k ≤ s.size ∧ i = .int .i64 k ∧ Hid (L = intsU (bitsU (s.data.toList.take k))) ∧ Hid (W.ownsRow w.heap.size 5 1 v L.length (nums .u8 L)) ∧ Hid (Below w.heap.size w W)) (fun _ i _ => s.size - (intOf i).toNat)
  case atStart => exact ⟨0, [], by omega, rfl, rfl, HO2, HB2⟩
  case round =>
    clear HO2 HB2
    obtain ⟨k, L, hk, rfl, HL, HO, HB⟩ := hrel
    by_cases hlt : k < s.size
    · have hc := s[k].toNat_lt
      have HS : Hid (intsU (bitsU (s.data.toList.take (k + 1))) = L ++ (List.range 8).map (ofB s[k].toNat)) := by
        show _ = _
        rw [bitsU_snoc s k hlt, HL.out, ← of_row _ hc]
        simp [intsU]
      have HLN : Hid (L.length ≤ 8000000) := by
        show _ ≤ _
        rw [HL.out]
        simp only [intsU, List.length_map, bitsU_len, List.length_take]
        have : s.data.toList.length = s.size := by simp
        omega
      go_wp2_with fail
      go_loopw [3, 5] (fun v p W => ∃ (j : Nat) (P : Int) (L2 : List Int), j ≤ 8 ∧ p = .int .i64 P ∧ Hid (P = 7 - j) ∧ Hid (L2 = L ++ ((List.range 8).map (ofB s[k].toNat)).take j) ∧ Hid (W.ownsRow w.heap.size 5 1 v L2.length (nums .u8 L2)) ∧ Hid (Below w.heap.size w W)) (fun _ p _ => ((intOf p) + 1).toNat)
      case atStart => exact ⟨0, 7, L, by omega, rfl, rfl, by show L = _; simp, HO, HB⟩
      case round =>
        clear HO HB
        obtain ⟨j, P, L2, hj, rfl, HP, HL2, HO, HB⟩ := hrel
        by_cases hj8 : j < 8
        · obtain rfl | rfl | rfl | rfl | rfl | rfl | rfl | rfl : j = 0 ∨ j = 1 ∨ j = 2 ∨ j = 3 ∨ j = 4 ∨ j = 5 ∨ j = 6 ∨ j = 7 := by omega
          · obtain rfl : P = 7 := HP.out
            go_wp2_with (at_builtin; refine print_append_num w.heap.size rfl (.tmp 19) (.tmp 27) 126 5 .u8 1 rfl Try.underlying126 infoB8 (by omega) _ L2 _ rfl rfl HO.out HB.out HB.out.size (by rw [HL2.out, List.length_append, List.length_take]; have := HLN.out; omega) ?_; intro v1 w1 hown hB hgr hat; have HO5 := Lib.hid hown; have HB5 := Lib.hid hB; clear hown hB hgr hat)
            go_roundw
            case rel =>
              refine ⟨0 + 1, 6, _, by omega, rfl, Lib.hid (by omega), ?_, HO5, HB5⟩
              show _ = _
              rw [HL2.out, List.append_assoc]
              congr 1
              try rfl
              try simp [ofB, List.range_succ]
            case measure => decide
          · obtain rfl : P = 6 := HP.out
            go_wp2_with (at_builtin; refine print_append_num w.heap.size rfl (.tmp 19) (.tmp 27) 126 5 .u8 1 rfl Try.underlying126 infoB8 (by omega) _ L2 _ rfl rfl HO.out HB.out HB.out.size (by rw [HL2.out, List.length_append, List.length_take]; have := HLN.out; omega) ?_; intro v1 w1 hown hB hgr hat; have HO5 := Lib.hid hown; have HB5 := Lib.hid hB; clear hown hB hgr hat)
            go_roundw
            case rel =>
              refine ⟨1 + 1, 5, _, by omega, rfl, Lib.hid (by omega), ?_, HO5, HB5⟩
              show _ = _
              rw [HL2.out, List.append_assoc]
              congr 1
              try rfl
              try simp [ofB, List.range_succ]
            case measure => decide
          · obtain rfl : P = 5 := HP.out
            go_wp2_with (at_builtin; refine print_append_num w.heap.size rfl (.tmp 19) (.tmp 27) 126 5 .u8 1 rfl Try.underlying126 infoB8 (by omega) _ L2 _ rfl rfl HO.out HB.out HB.out.size (by rw [HL2.out, List.length_append, List.length_take]; have := HLN.out; omega) ?_; intro v1 w1 hown hB hgr hat; have HO5 := Lib.hid hown; have HB5 := Lib.hid hB; clear hown hB hgr hat)
            go_roundw
            case rel =>
              refine ⟨2 + 1, 4, _, by omega, rfl, Lib.hid (by omega), ?_, HO5, HB5⟩
              show _ = _
              rw [HL2.out, List.append_assoc]
              congr 1
              try rfl
              try simp [ofB, List.range_succ]
            case measure => decide
          · obtain rfl : P = 4 := HP.out
            go_wp2_with (at_builtin; refine print_append_num w.heap.size rfl (.tmp 19) (.tmp 27) 126 5 .u8 1 rfl Try.underlying126 infoB8 (by omega) _ L2 _ rfl rfl HO.out HB.out HB.out.size (by rw [HL2.out, List.length_append, List.length_take]; have := HLN.out; omega) ?_; intro v1 w1 hown hB hgr hat; have HO5 := Lib.hid hown; have HB5 := Lib.hid hB; clear hown hB hgr hat)
            go_roundw
            case rel =>
              refine ⟨3 + 1, 3, _, by omega, rfl, Lib.hid (by omega), ?_, HO5, HB5⟩
              show _ = _
              rw [HL2.out, List.append_assoc]
              congr 1
              try rfl
              try simp [ofB, List.range_succ]
            case measure => decide
          · obtain rfl : P = 3 := HP.out
            go_wp2_with (at_builtin; refine print_append_num w.heap.size rfl (.tmp 19) (.tmp 27) 126 5 .u8 1 rfl Try.underlying126 infoB8 (by omega) _ L2 _ rfl rfl HO.out HB.out HB.out.size (by rw [HL2.out, List.length_append, List.length_take]; have := HLN.out; omega) ?_; intro v1 w1 hown hB hgr hat; have HO5 := Lib.hid hown; have HB5 := Lib.hid hB; clear hown hB hgr hat)
            go_roundw
            case rel =>
              refine ⟨4 + 1, 2, _, by omega, rfl, Lib.hid (by omega), ?_, HO5, HB5⟩
              show _ = _
              rw [HL2.out, List.append_assoc]
              congr 1
              try rfl
              try simp [ofB, List.range_succ]
            case measure => decide
          · obtain rfl : P = 2 := HP.out
            go_wp2_with (at_builtin; refine print_append_num w.heap.size rfl (.tmp 19) (.tmp 27) 126 5 .u8 1 rfl Try.underlying126 infoB8 (by omega) _ L2 _ rfl rfl HO.out HB.out HB.out.size (by rw [HL2.out, List.length_append, List.length_take]; have := HLN.out; omega) ?_; intro v1 w1 hown hB hgr hat; have HO5 := Lib.hid hown; have HB5 := Lib.hid hB; clear hown hB hgr hat)
            go_roundw
            case rel =>
              refine ⟨5 + 1, 1, _, by omega, rfl, Lib.hid (by omega), ?_, HO5, HB5⟩
              show _ = _
              rw [HL2.out, List.append_assoc]
              congr 1
              try rfl
              try simp [ofB, List.range_succ]
            case measure => decide
          · obtain rfl : P = 1 := HP.out
            go_wp2_with (at_builtin; refine print_append_num w.heap.size rfl (.tmp 19) (.tmp 27) 126 5 .u8 1 rfl Try.underlying126 infoB8 (by omega) _ L2 _ rfl rfl HO.out HB.out HB.out.size (by rw [HL2.out, List.length_append, List.length_take]; have := HLN.out; omega) ?_; intro v1 w1 hown hB hgr hat; have HO5 := Lib.hid hown; have HB5 := Lib.hid hB; clear hown hB hgr hat)
            go_roundw
            case rel =>
              refine ⟨6 + 1, 0, _, by omega, rfl, Lib.hid (by omega), ?_, HO5, HB5⟩
              show _ = _
              rw [HL2.out, List.append_assoc]
              congr 1
              try rfl
              try simp [ofB, List.range_succ]
            case measure => decide
          · obtain rfl : P = 0 := HP.out
            go_wp2_with (at_builtin; refine print_append_num w.heap.size rfl (.tmp 19) (.tmp 27) 126 5 .u8 1 rfl Try.underlying126 infoB8 (by omega) _ L2 _ rfl rfl HO.out HB.out HB.out.size (by rw [HL2.out, List.length_append, List.length_take]; have := HLN.out; omega) ?_; intro v1 w1 hown hB hgr hat; have HO5 := Lib.hid hown; have HB5 := Lib.hid hB; clear hown hB hgr hat)
            go_roundw
            case rel =>
              refine ⟨7 + 1, -1, _, by omega, rfl, Lib.hid (by omega), ?_, HO5, HB5⟩
              show _ = _
              rw [HL2.out, List.append_assoc]
              congr 1
              try rfl
              try simp [ofB, List.range_succ]
            case measure => decide
        · obtain rfl : j = 8 := by omega
          obtain rfl : P = -1 := HP.out
          have HLX : Hid (L2 = intsU (bitsU (s.data.toList.take (k + 1)))) := by
            show _ = _
            rw [HL2.out, HS.out, List.take_of_length_le (by simp)]
          go_wp2_with fail
          go_roundw
          case rel => exact ⟨k + 1, L2, by omega, by go_num, HLX.out, HO, HB⟩
          case measure => simp [intOf]; omega
    · obtain rfl : k = s.size := by omega
      have HX : Hid (R = strOfNums L) := by
        show _ = _
        rw [HR.out, HL.out, List.take_of_length_le (by simp), strOf_ints]
      have hcv := own_string (P := Try.prog) Try.underlying126 Try.underlying5 Try.underlying9 HO.out
      go_wp2_with fail
      go_ret
      exact ⟨by rw [HX.out]; rfl, HB.out⟩
end Go.Proofs.Ytfeddgeihpfjfaa
