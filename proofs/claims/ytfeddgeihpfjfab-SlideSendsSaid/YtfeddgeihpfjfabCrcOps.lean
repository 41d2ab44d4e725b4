/- Seal, Open, and the reference's Big, Small, Sealed, Opened. -/
import Derived.Test.YtfeddgeihpfjfabCrcTab
import Derived.Test.YtfeddgeihpfjfabCrcStr
import Derived.Lib.ConvBytes
import Derived.Deep.RegionWith
import Derived.Deep.RegionHeld3
set_option linter.unusedSimpArgs false
set_option linter.unusedVariables false
namespace Go.Proofs.Ytfeddgeihpfjfab
open Go.RowKit Crc

/-- A list of bytes as a string. -/
def bs (l : List UInt8) : ByteArray := ⟨l.toArray⟩
theorem bs_list (s : ByteArray) : bs s.data.toList = s := rfl
theorem list_bs (l : List UInt8) : (bs l).data.toList = l := rfl
theorem bytes_list (s : ByteArray) : s.toList = s.data.toList := by
  exact ByteArray.toList_eq s
theorem bytes_inj {s t : ByteArray} (h : s.toList = t.toList) : s = t := by
  rw [bytes_list, bytes_list] at h
  exact ByteArray.ext (Array.toList_inj.1 h)
theorem bs_size (l : List UInt8) : (bs l).size = l.length := rfl
theorem bs_append (l m : List UInt8) : bs l ++ bs m = bs (l ++ m) := by
  apply ByteArray.ext
  simp [bs]

theorem seal_bytes (c : W) : strOfNums [wn c / 16777216, wn c / 65536 % 256, wn c / 256 % 256, wn c % 256] = bs (big c.toNat 4) := by
  rw [big4]
  unfold strOfNums bs wn
  have h := c.isLt
  have e1 : ((c.toNat : Int) / 16777216).toNat = c.toNat / 16777216 % 256 := by omega
  have e2 : ((c.toNat : Int) / 65536 % 256).toNat = c.toNat / 65536 % 256 := by omega
  have e3 : ((c.toNat : Int) / 256 % 256).toNat = c.toNat / 256 % 256 := by omega
  have e4 : ((c.toNat : Int) % 256).toNat = c.toNat % 256 := by omega
  simp only [List.map_cons, List.map_nil, e1, e2, e3, e4]

set_option maxRecDepth 100000 in
theorem seal_any (s : ByteArray) (hs : s.size ≤ 140737488351232) (w : World) :
    Calls Try.prog 61 #[.string s] w fun e w' => e = .returned (.string (bs (sealed s.data.toList))) ∧ Below w.heap.size w w' := by
  have HS : Hid (Calls Try.prog 101 #[.string s] w fun e w' => e = .returned (U (sum s.data.toList)) ∧ Below w.heap.size w w') := sum_any s (by omega) w
  have hfin : s ++ bs (big (sum s.data.toList).toNat 4) = bs (sealed s.data.toList) := by
    conv => lhs; rw [← bs_list s]
    rw [bs_append]; rfl
  have HFIN := Lib.hid hfin
  clear hfin
  generalize hc : sum s.data.toList = c at HS HFIN
  clear hc
  have h0 := wn_ge c
  have h1 := wn_lt c
  have HV : Hid (∀ W : World, (convert 113 9 (.slice (some ⟨W.heap.size, 0, none⟩) 4 4)).run Try.prog (W.alloc (Obj.cells #[Value.int IntKind.u8 (wn c / 16777216), Value.int IntKind.u8 (wn c / 65536 % 256), Value.int IntKind.u8 (wn c / 256 % 256), Value.int IntKind.u8 (wn c % 256)] 5)) =
      .ok (.string (bs (big c.toNat 4))) (W.alloc (Obj.cells #[Value.int IntKind.u8 (wn c / 16777216), Value.int IntKind.u8 (wn c / 65536 % 256), Value.int IntKind.u8 (wn c / 256 % 256), Value.int IntKind.u8 (wn c % 256)] 5))) := fun W => by
    rw [← seal_bytes]
    exact run_convert_bytes_arg (P := Try.prog) (W.alloc (Obj.cells #[Value.int IntKind.u8 (wn c / 16777216), Value.int IntKind.u8 (wn c / 65536 % 256), Value.int IntKind.u8 (wn c / 256 % 256), Value.int IntKind.u8 (wn c % 256)] 5)) 113 5 Try.underlying113 Try.underlying5 W.heap.size 0 4 4 [wn c / 16777216, wn c / 65536 % 256, wn c / 256 % 256, wn c % 256] rfl (fun i hi => (Blk.new W _ _).cell _ (by match i, hi with | 0, _ => rfl | 1, _ => rfl | 2, _ => rfl | 3, _ => rfl)) 9 Try.underlying9
  have hz : (bs (big c.toNat 4)).size = 4 := by rw [bs_size, big_length]
  generalize bs (big c.toNat 4) = t at HV HFIN hz
  go_enter Try.func61, Try.ntmps61
  go_wp2_with (go_at_call 101; ((with_reducible refine HS.out.mono ?_)); rintro e w1 ⟨rfl, hb1⟩; have HB1 := Lib.hid hb1; clear hb1; have hv := HV.out w1)
  go_ret
  exact ⟨by rw [HFIN.out]; rfl, HB1.out.alloc HB1.out.size _⟩

/-- What 'Open' answers. -/
def openS (l : List UInt8) : List UInt8 × Int :=
  if l.length < 4 then ([], 9) else if sealed (l.take (l.length - 4)) = l then (l.take (l.length - 4), 0) else ([], 8)

set_option maxRecDepth 100000 in
theorem open_any (s : ByteArray) (hs : s.size ≤ 140737488351232) (w : World) :
    Calls Try.prog 63 #[.string s] w fun e w' => e = .returned (.tuple #[.string (bs (openS s.data.toList).1), .int .i64 (openS s.data.toList).2]) ∧ Below w.heap.size w w' := by
  have hl : s.data.toList.length = s.size := rfl
  have HL := Lib.hid hl
  clear hl
  by_cases h4 : s.size < 4
  · have hE : openS s.data.toList = ([], 9) := by rw [openS, HL.out, if_pos h4]
    rw [hE]; clear hE
    go_enter Try.func63, Try.ntmps63
    go_wp2
    go_ret2
    exact ⟨rfl, Below.refl _ _⟩
  · have hsl : s.size - 4 ≤ s.size := by omega
    have HC : Hid (Calls Try.prog 61 #[.string (s.extract 0 (s.size - 4))] w fun e w' => e = .returned (.string (bs (sealed (s.data.toList.take (s.size - 4))))) ∧ Below w.heap.size w w') := by
      have h := seal_any (s.extract 0 (s.size - 4)) (by rw [ByteArray.size_extract]; omega) w
      have e : (s.extract 0 (s.size - 4)).data.toList = s.data.toList.take (s.size - 4) := by simp [ByteArray.data_extract]
      rw [e] at h; exact h
    have hext : s.extract 0 (s.size - 4) = bs (s.data.toList.take (s.size - 4)) := by
      apply ByteArray.ext; apply Array.toList_inj.1; simp [bs, ByteArray.data_extract]
    have HEX := Lib.hid hext
    clear hext
    by_cases he : sealed (s.data.toList.take (s.size - 4)) = s.data.toList
    · have hE : openS s.data.toList = (s.data.toList.take (s.size - 4), 0) := by rw [openS, HL.out, if_neg h4, if_pos he]
      have hq : ((bs (sealed (s.data.toList.take (s.size - 4)))).toList == s.toList) = true := by rw [he, bs_list]; simp
      rw [hE]
      clear he hE HL
      generalize bs (sealed (s.data.toList.take (s.size - 4))) = t at HC hq
      go_enter Try.func63, Try.ntmps63
      go_wp2_with (go_at_call 61; ((with_reducible refine HC.out.mono ?_)); rintro e w1 ⟨rfl, hb1⟩; have HB1 := Lib.hid hb1; clear hb1)
      go_ret2
      exact ⟨by rw [← HEX.out]; rfl, HB1.out⟩
    · have hE : openS s.data.toList = ([], 8) := by rw [openS, HL.out, if_neg h4, if_neg he]
      have hq : ((bs (sealed (s.data.toList.take (s.size - 4)))).toList == s.toList) = false := by
        rw [beq_eq_false_iff_ne]; intro h
        exact he (by have := bytes_inj h; rw [← list_bs (sealed _), this])
      rw [hE]
      clear he hE HL
      generalize bs (sealed (s.data.toList.take (s.size - 4))) = t at HC hq
      go_enter Try.func63, Try.ntmps63
      go_wp2_with (go_at_call 61; ((with_reducible refine HC.out.mono ?_)); rintro e w1 ⟨rfl, hb1⟩; have HB1 := Lib.hid hb1; clear hb1)
      go_ret2
      exact ⟨rfl, HB1.out⟩

/-! ### The reference -/

theorem small_bound (l : List UInt8) (h : l.length ≤ 7) : small l < 72057594037927936 := by
  have h1 := small_lt l
  have h2 : 256 ^ l.length ≤ 256 ^ 7 := Nat.pow_le_pow_right (by decide) h
  omega

theorem below_bytes (w : World) (e : TypeId) (s : ByteArray) : Below w.heap.size w (Lib.bytesWorld w e s) :=
  ⟨by simp [Lib.bytesWorld, World.freeze]; rfl, by simp [Lib.bytesWorld, World.freeze], by simp [Lib.bytesWorld, World.freeze]; rfl, by rw [Lib.bytesWorld_size]; omega, fun k hk => Lib.bytesWorld_at_old w e s k hk⟩
theorem take_data (s : ByteArray) (k : Nat) (h : k < s.size) : s.data.toList.take (k + 1) = s.data.toList.take k ++ [s[k]] := by
  rw [List.take_succ_eq_append_getElem (by simpa using h)]; rfl

set_option maxRecDepth 100000 in
theorem small_any (s : ByteArray) (hs : s.size ≤ 7) (w : World) :
    Calls Try.prog 104 #[.string s] w fun e w' => e = .returned (.int .i64 (small s.data.toList)) ∧ Below w.heap.size w w' := by
  have hcv := Lib.run_convert_string_bytes (P := Try.prog) w 9 113 5 s Try.underlying9 Try.underlying113 Try.underlying5
  have HCE : Hid (∀ j, j < s.size → (Lib.bytesWorld w 5 s).cell? ⟨w.heap.size, j, none⟩ = some (.int .u8 (s.data.toList.getD j 0).toNat)) := fun j hj => Lib.bytesWorld_cell w _ s j hj
  have HBL : Hid (Below w.heap.size w (Lib.bytesWorld w 5 s)) := below_bytes w _ s
  generalize Lib.bytesWorld w 5 s = W2 at hcv HCE HBL
  generalize w.heap.size = g at hcv HCE HBL
  go_enter Try.func104, Try.ntmps104
  go_wp2
  go_loop [3, 9] (fun c i => ∃ k : Nat, k ≤ s.size ∧ i = .int .i64 k ∧ c = .int .i64 (small (s.data.toList.take k))) (fun _ i => s.size - (intOf i).toNat)
  case atStart => exact ⟨0, Nat.zero_le _, rfl, rfl⟩
  case round =>
    clear hcv
    obtain ⟨k, hk, rfl, rfl⟩ := hrel
    have hsm : small (s.data.toList.take k) < 256 ^ 7 := Nat.lt_of_lt_of_le (small_lt _) (Nat.pow_le_pow_right (by decide) (by rw [List.length_take]; omega))
    have hsm2 : k < s.size → small (s.data.toList.take k) < 256 ^ 6 := fun h => Nat.lt_of_lt_of_le (small_lt _) (Nat.pow_le_pow_right (by decide) (by rw [List.length_take]; omega))
    have HC : Hid (∀ h : k < s.size, small (s.data.toList.take (k + 1)) = 256 * small (s.data.toList.take k) + s[k].toNat) := fun h => by rw [take_data s k h, small_snoc]
    have HE : Hid (k = s.size → small (s.data.toList.take k) = small s.data.toList) := fun h => by rw [List.take_of_length_le (by show s.size ≤ k; omega)]
    generalize small (s.data.toList.take k) = v at hsm hsm2 HC HE
    by_cases hlt : k < s.size
    · have hv := hsm2 hlt
      have hcell : W2.cell? ⟨g, k, none⟩ = some (.int .u8 (s[k].toNat : Int)) := by rw [HCE.out k hlt]; simp [List.getD_eq_getElem?_getD, hlt]; rfl
      have hb := s[k].toNat_lt
      clear hsm hsm2
      generalize hsk : s[k].toNat = x at hcell hb
      have HX := Lib.hid hsk
      clear hsk
      go_wp2
      go_round
      case rel =>
        refine ⟨k + 1, by omega, by go_num, ?_⟩
        rw [HC.out hlt, HX.out]; go_num
      case measure => simp [intOf]; omega
    · have hks : k = s.size := by omega
      have HKS := Lib.hid hks
      clear hks hsm hsm2
      go_wp2
      go_ret
      exact ⟨by rw [← HE.out HKS.out]; rfl, HBL.out⟩

theorem conv_one {P : Program} (w : World) (src e dst : TypeId) (hs : P.underlying src = some (.slice e)) (he : P.underlying e = some (.int .u8)) (hd : P.underlying dst = some .string) (g : Nat) (x : Int) (hc : w.cell? ⟨g, 0, none⟩ = some (.int .u8 x)) :
    (convert src dst (.slice (some ⟨g, 0, none⟩) 1 1)).run P w = .ok (.string (bs [UInt8.ofNat x.toNat])) w :=
  run_convert_bytes_arg (P := P) w src e hs he g 0 1 1 [x] rfl (fun i hi => by have e : i = 0 := by omega
                                                                               subst e; exact hc) dst hd

set_option maxRecDepth 100000 in
set_option maxHeartbeats 1000000 in
theorem big_any (k : Nat) : ∀ (n : Nat) (i : Int) (hi : i = k) (hn : n < 4294967296) (hk : k ≤ 8) (w : World),
    Calls Try.prog 102 #[.int .i64 n, .int .i64 i] w fun e w' => e = .returned (.string (bs (big n k))) ∧ Below w.heap.size w w' := by
  induction k with
  | zero =>
    intro n i hi hn hk w
    subst hi
    go_enter Try.func102, Try.ntmps102
    go_wp2_with fail
    go_ret
    exact ⟨rfl, Below.refl _ _⟩
  | succ k ih =>
    intro n i hi hn hk w
    have HC : Hid (∀ W : World, Calls Try.prog 102 #[.int .i64 ((n : Int) / 256), .int .i64 (k : Int)] W fun e w' => e = .returned (.string (bs (big (n / 256) k))) ∧ Below W.heap.size W w') := fun W => by
      have := ih (n / 256) k rfl (by omega) (by omega) W
      rwa [show ((n / 256 : Nat) : Int) = (n : Int) / 256 by omega] at this
    clear ih
    have hz : (bs (big (n / 256) k)).size = k := by rw [bs_size, big_length]
    have hz1 : (bs [UInt8.ofNat ((n : Int) % 256).toNat]).size = 1 := rfl
    have HF : Hid (bs (big (n / 256) k) ++ bs [UInt8.ofNat ((n : Int) % 256).toNat] = bs (big n (k + 1))) := by
      show _ = _
      rw [bs_append, big, show ((n : Int) % 256).toNat = n % 256 by omega]
    generalize bs (big (n / 256) k) = t at HC HF hz
    have hcv := fun (W : World) (g : Nat) (h : W.cell? ⟨g, 0, none⟩ = some (.int .u8 ((n : Int) % 256))) => conv_one (P := Try.prog) W 113 5 9 Try.underlying113 Try.underlying5 Try.underlying9 g _ h
    generalize bs [UInt8.ofNat ((n : Int) % 256).toNat] = t1 at hcv HF hz1
    have hi' : i = (k : Int) + 1 := by omega
    subst hi'
    clear hi
    have q0 : (((k : Int) + 1) == 0) = false := by simp; omega
    have hk1 : (k : Int) + 1 - 1 = k := by omega
    go_enter Try.func102, Try.ntmps102
    go_wp2_with fail
    go_cut [4] (fun v W => v = .string (bs (big n (k + 1))) ∧ Below w.heap.size w W)
    case first =>
      have e1 : IntKind.i64.wrap ((n : Int) / 256) = (n : Int) / 256 := by rw [IntKind.wrap_i64]; omega
      have e2 : IntKind.i64.wrap (k : Int) = k := by rw [IntKind.wrap_i64]; omega
      have e3 : (n : Int).tmod 256 = (n : Int) % 256 := Int.tmod_eq_emod_of_nonneg (by omega)
      have e4 : IntKind.u8.wrap ((n : Int) % 256) = (n : Int) % 256 := by rw [IntKind.wrap_u8]; omega
      go_region_with (go_at_call 102; ((with_reducible refine (HC.out _).mono ?_)); rintro e w2 ⟨rfl, hb2⟩; obtain ⟨hc2, hf2⟩ := bcell hb2; have HB2 := Lib.hid hb2; clear hb2)
      all_goals
        have hb2 := HB2.out
        simp only [heap_drew, World.size_alloc] at hb2
        go_wp2_with fail
        go_meet
        refine ⟨by rw [HF.out], ?_⟩
        first
        | exact (below_of_drew hb2).alloc (below_of_drew hb2).size _
        | exact below_of_alloc (below_of_drew hb2)
    case rest =>
      obtain ⟨rfl, hb⟩ := hcut
      go_wp2_with fail
      go_ret
      exact ⟨rfl, hb⟩
end Go.Proofs.Ytfeddgeihpfjfab
