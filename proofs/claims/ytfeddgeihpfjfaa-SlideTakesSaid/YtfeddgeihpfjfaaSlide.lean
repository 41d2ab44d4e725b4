/- The receiving ends of package slide and of the reference. -/
import Derived.Test.YtfeddgeihpfjfaaCrcOpen
import Derived.Test.YtfeddgeihpfjfaaCut
set_option linter.unusedSimpArgs false
set_option linter.unusedVariables false
namespace Go.Proofs.Ytfeddgeihpfjfaa
open Go.RowKit Crc

theorem modulus_any (m : Int) (w : World) :
    Calls Try.prog 96 #[.int .i64 m] w fun e w' => e = .returned (.bool (m == 8 || m == 16)) ∧ w = w' := by
  by_cases h8 : m = 8
  · have q : (m == 8) = true := by simp [h8]
    clear h8
    go_enter Try.func96, Try.ntmps96
    go_wp2
    go_ret
    exact ⟨by rw [q]; rfl, rfl⟩
  · have q : (m == 8) = false := by simp [h8]
    clear h8
    go_enter Try.func96, Try.ntmps96
    go_wp2
    go_ret
    exact ⟨by rw [q]; rfl, rfl⟩

theorem newrecv_ok (m : Int) (hm : (m == 8 || m == 16) = true) (w : World) :
    Calls Try.prog 34 #[.int .i64 m] w fun e w' => e = .returned (.tuple #[.pointer (some ⟨w.heap.size, 0, none⟩), .int .i64 0]) ∧ w' = w.alloc (.cells #[.int .i64 m, .int .i64 0] 152) := by
  have HM : Hid (Calls Try.prog 96 #[.int .i64 m] w fun e w' => e = .returned (.bool true) ∧ w = w') := hm ▸ modulus_any m w
  clear hm
  go_enter Try.func34, Try.ntmps34
  go_wp2_with (go_at_call 96; ((with_reducible refine HM.out.mono ?_)); rintro e w1 ⟨rfl, rfl⟩)
  go_ret2
  exact ⟨rfl, rfl⟩
theorem newrecv_bad (m : Int) (hm : (m == 8 || m == 16) = false) (w : World) :
    Calls Try.prog 34 #[.int .i64 m] w fun e w' => e = .returned (.tuple #[.pointer none, .int .i64 1]) ∧ w = w' := by
  have HM : Hid (Calls Try.prog 96 #[.int .i64 m] w fun e w' => e = .returned (.bool false) ∧ w = w') := hm ▸ modulus_any m w
  clear hm
  go_enter Try.func34, Try.ntmps34
  go_wp2_with (go_at_call 96; ((with_reducible refine HM.out.mono ?_)); rintro e w1 ⟨rfl, rfl⟩)
  go_ret2
  exact ⟨rfl, rfl⟩

/-- What a receiver does: the body, whether it is the next one, the acknowledgement, the error, and how many it has got. -/
structure Took where
  body : List UInt8
  fresh : Bool
  ack : List UInt8
  err : Int
  got : Nat
def ackOf (n : Nat) : List UInt8 := sealed [65, UInt8.ofNat n]
def goodForm (md : Nat) (x : List UInt8) : Prop := 2 ≤ x.length ∧ x.length ≤ 1502 ∧ x.getD 0 0 = 68 ∧ (x.getD 1 0).toNat < md
instance (md : Nat) (x : List UInt8) : Decidable (goodForm md x) := by unfold goodForm; infer_instance
def takeS (md got : Nat) (t : List UInt8) : Took :=
  let x := (openS t).1
  let e := (openS t).2
  if e ≠ 0 then ⟨[], false, [], e, got⟩
  else if ¬ goodForm md x then ⟨[], false, [], 3, got⟩
  else if (x.getD 1 0).toNat = got % md then ⟨x.drop 2, true, ackOf ((got + 1) % md), 0, got + 1⟩
  else ⟨[], false, ackOf (got % md), 0, got⟩
def tookV (t : Took) : Value := .tuple #[.string (bs t.body), .bool t.fresh, .string (bs t.ack), .int .i64 t.err]

set_option maxRecDepth 100000 in
theorem recv_err (g : Nat) (t : ByteArray) (ht : t.size ≤ 140737488351232) (he : (openS t.data.toList).2 ≠ 0) (w : World) (hg : g < w.heap.size) :
    Calls Try.prog 37 #[.pointer (some ⟨g, 0, none⟩), .string t] w fun e w' => e = .returned (.tuple #[.string (bs []), .bool false, .string (bs []), .int .i64 (openS t.data.toList).2]) ∧ Below w.heap.size w w' := by
  have HO : Hid (∀ W : World, Calls Try.prog 27 #[.string t] W fun e w' => e = .returned (.tuple #[.string (bs (openS t.data.toList).1), .int .i64 (openS t.data.toList).2]) ∧ Below W.heap.size W w') := fun W => open_any t ht W
  generalize bs (openS t.data.toList).1 = x at HO
  generalize (openS t.data.toList).2 = e at HO he ⊢
  have q : (e != 0) = true := by simpa using he
  clear he
  go_enter Try.func37, Try.ntmps37
  go_wp2_with (go_at_call 27; ((with_reducible refine (HO.out _).mono ?_)); rintro e w1 ⟨rfl, hb⟩; have HB := Lib.hid hb; clear hb)
  refine bodyPost_ret (results_tmp4 rfl _ _ _) rfl ⟨rfl, HB.out⟩

theorem conv_two {P : Program} (w : World) (src e dst : TypeId) (hs : P.underlying src = some (.slice e)) (he : P.underlying e = some (.int .u8)) (hd : P.underlying dst = some .string) (g : Nat) (x y : Int)
    (hx : w.cell? ⟨g, 0, none⟩ = some (.int .u8 x)) (hy : w.cell? ⟨g, 1, none⟩ = some (.int .u8 y)) :
    (convert src dst (.slice (some ⟨g, 0, none⟩) 2 2)).run P w = .ok (.string (bs [UInt8.ofNat x.toNat, UInt8.ofNat y.toNat])) w :=
  run_convert_bytes_arg (P := P) w src e hs he g 0 2 2 [x, y] rfl (fun i hi => by match i, hi with | 0, _ => exact hx | 1, _ => exact hy) dst hd
theorem byte64 (b : UInt8) : wrap64 (b.toNat : Int) = (b.toNat : Int) := by have := b.toNat_lt; unfold wrap64; omega
theorem bs_get (l : List UInt8) (i : Nat) (h : i < (bs l).size) : (bs l)[i] = l.getD i 0 := by
  have h' : i < l.length := h
  simp [List.getD_eq_getElem?_getD, h']; rfl

set_option maxRecDepth 100000 in
set_option maxHeartbeats 1000000 in
theorem recv_form (g md : Nat) (nx : Int) (t : ByteArray) (ht : t.size ≤ 140737488351232) (he : (openS t.data.toList).2 = 0) (hf : ¬ goodForm md (openS t.data.toList).1) (hmd : md < 1000) (w : World) (hg : Blk w g #[.int .i64 md, .int .i64 nx] 152) :
    Calls Try.prog 37 #[.pointer (some ⟨g, 0, none⟩), .string t] w fun e w' => e = .returned (.tuple #[.string (bs []), .bool false, .string (bs []), .int .i64 3]) ∧ Below w.heap.size w w' := by
  have HO : Hid (∀ W : World, Calls Try.prog 27 #[.string t] W fun e w' => e = .returned (.tuple #[.string (bs (openS t.data.toList).1), .int .i64 0]) ∧ Below W.heap.size W w') := fun W => he ▸ open_any t ht W
  clear he
  generalize (openS t.data.toList).1 = X at HO hf
  have hsz : (bs X).size = X.length := rfl
  have h0 : ∀ h : 0 < (bs X).size, (bs X)[0] = X.getD 0 0 := bs_get X 0
  have h1 : ∀ h : 1 < (bs X).size, (bs X)[1] = X.getD 1 0 := bs_get X 1
  generalize bs X = x at HO hsz h0 h1
  have HSZ := Lib.hid hsz
  have H0 := Lib.hid h0
  have H1 := Lib.hid h1
  have HG := Lib.hid hg
  clear hsz h0 h1 hg
  by_cases c1 : x.size < 2
  · have q1 : decide ((x.size : Int) < 2) = true := by simp; omega
    clear hf
    go_enter Try.func37, Try.ntmps37
    go_wp2_with (go_at_call 27; ((with_reducible refine (HO.out _).mono ?_)); rintro e w1 ⟨rfl, hb⟩; have HB := Lib.hid hb; clear hb)
    go_quiet (fail)
    go_wp2_with fail
    refine bodyPost_ret (results_tmp4 rfl _ _ _) rfl ⟨rfl, below_drewN HB.out _⟩
  · have q1 : decide ((x.size : Int) < 2) = false := by simp; omega
    have l0 : 0 < x.size := by omega
    have l1 : 1 < x.size := by omega
    have l1' : (1 : Int) < x.size := by omega
    have hwb : wrap64 (x[1].toNat : Int) = (x[1].toNat : Int) := byte64 _
    by_cases c2 : 1502 < x.size
    · have q2 : decide ((1502 : Int) < x.size) = true := by simp; omega
      clear hf
      go_enter Try.func37, Try.ntmps37
      go_wp2_with (go_at_call 27; ((with_reducible refine (HO.out _).mono ?_)); rintro e w1 ⟨rfl, hb⟩; have HB := Lib.hid hb; clear hb)
      go_quiet (fail)
      go_wp2_with fail
      refine bodyPost_ret (results_tmp4 rfl _ _ _) rfl ⟨rfl, below_drewN HB.out _⟩
    · have q2 : decide ((1502 : Int) < x.size) = false := by simp; omega
      by_cases c3 : X.getD 0 0 = 68
      · have q3 : ((x[0].toNat : Int) != 68) = false := by rw [H0.out l0, c3]; rfl
        have c4 : md ≤ (X.getD 1 0).toNat := by
          rcases Nat.lt_or_ge (X.getD 1 0).toNat md with h | h
          · exact absurd ⟨by rw [← HSZ.out]; omega, by rw [← HSZ.out]; omega, c3, h⟩ hf
          · exact h
        have q4 : decide (md ≤ x[1].toNat) = true := decide_eq_true (by rw [H1.out l1]; omega)
        clear hf c3 c4
        go_enter Try.func37, Try.ntmps37
        go_wp2_with (go_at_call 27; ((with_reducible refine (HO.out _).mono ?_)); rintro e w1 ⟨rfl, hb⟩; have HB := Lib.hid hb; have hc0 := (blk_below hb HG.out).cell 0 rfl; clear hb)
        go_quiet (fail)
        go_wp2_with fail
        refine bodyPost_ret (results_tmp4 rfl _ _ _) rfl ⟨rfl, below_drewN HB.out _⟩
      · have q3 : ((x[0].toNat : Int) != 68) = true := by
          rw [H0.out l0, bne_iff_ne]; intro h; apply c3; apply UInt8.toNat_inj.1; show (X.getD 0 0).toNat = 68; omega
        clear hf c3
        go_enter Try.func37, Try.ntmps37
        go_wp2_with (go_at_call 27; ((with_reducible refine (HO.out _).mono ?_)); rintro e w1 ⟨rfl, hb⟩; have HB := Lib.hid hb; clear hb)
        go_quiet (fail)
        go_wp2_with fail
        refine bodyPost_ret (results_tmp4 rfl _ _ _) rfl ⟨rfl, below_drewN HB.out _⟩

set_option maxRecDepth 100000 in
set_option maxHeartbeats 1000000 in
theorem recv_old (g md got : Nat) (t : ByteArray) (ht : t.size ≤ 140737488351232) (he : (openS t.data.toList).2 = 0) (hf : goodForm md (openS t.data.toList).1) (hn : (((openS t.data.toList).1).getD 1 0).toNat ≠ got % md) (hmd : md < 256) (hm0 : 0 < md) (w : World) (hg : Blk w g #[.int .i64 md, .int .i64 ((got % md : Nat) : Int)] 152) :
    Calls Try.prog 37 #[.pointer (some ⟨g, 0, none⟩), .string t] w fun e w' => e = .returned (.tuple #[.string (bs []), .bool false, .string (bs (ackOf (got % md))), .int .i64 0]) ∧ Below w.heap.size w w' := by
  have HO : Hid (∀ W : World, Calls Try.prog 27 #[.string t] W fun e w' => e = .returned (.tuple #[.string (bs (openS t.data.toList).1), .int .i64 0]) ∧ Below W.heap.size W w') := fun W => he ▸ open_any t ht W
  clear he
  generalize (openS t.data.toList).1 = X at HO hf hn
  obtain ⟨f1, f2, f3, f4⟩ := hf
  have hlt : got % md < md := Nat.mod_lt _ hm0
  generalize got % md = q at hn hg hlt ⊢
  have hsz : (bs X).size = X.length := rfl
  have h0 : ∀ h : 0 < (bs X).size, (bs X)[0] = X.getD 0 0 := bs_get X 0
  have h1 : ∀ h : 1 < (bs X).size, (bs X)[1] = X.getD 1 0 := bs_get X 1
  generalize bs X = x at HO hsz h0 h1
  have l0 : 0 < x.size := by omega
  have l1 : 1 < x.size := by omega
  have l1' : (1 : Int) < x.size := by omega
  have hwb : wrap64 (x[1].toNat : Int) = (x[1].toNat : Int) := byte64 _
  have q1 : decide ((x.size : Int) < 2) = false := by simp; omega
  have q2 : decide ((1502 : Int) < x.size) = false := by simp; omega
  have q3 : ((x[0].toNat : Int) != 68) = false := by rw [h0 l0, f3]; rfl
  have q4 : decide (md ≤ x[1].toNat) = false := decide_eq_false (by rw [h1 l1]; omega)
  have q5 : ((x[1].toNat : Int) == (q : Int)) = false := by rw [beq_eq_false_iff_ne, h1 l1]; omega
  have q6 : (x[1].toNat == q) = false := by rw [beq_eq_false_iff_ne, h1 l1]; omega
  have HG := Lib.hid hg
  have HA : Hid (∀ W : World, Calls Try.prog 32 #[.string (bs [65, UInt8.ofNat q])] W fun e w' => e = .returned (.string (bs (ackOf q))) ∧ Below W.heap.size W w') := fun W => seal_any (bs [65, UInt8.ofNat q]) (by rw [bs_size]; simp) W
  have hcv := fun (W : World) (g : Nat) (h0 : W.cell? ⟨g, 0, none⟩ = some (.int .u8 65)) (h1 : W.cell? ⟨g, 1, none⟩ = some (.int .u8 (q : Int))) => conv_two (P := Try.prog) W 126 5 9 Try.underlying126 Try.underlying5 Try.underlying9 g _ _ h0 h1
  rw [show UInt8.ofNat (Int.toNat 65) = 65 from rfl, show UInt8.ofNat (Int.toNat (q : Int)) = UInt8.ofNat q from rfl] at hcv
  generalize bs [65, UInt8.ofNat q] = a at HA hcv
  generalize bs (ackOf q) = b at HA ⊢
  clear hg hsz h0 h1 f1 f2 f3 f4 hn
  go_enter Try.func37, Try.ntmps37
  go_wp2_with (go_at_call 27; ((with_reducible refine (HO.out _).mono ?_)); rintro e w1 ⟨rfl, hb⟩; have HB := Lib.hid hb; have hc0 := (blk_below hb HG.out).cell 0 rfl; have hc1 := (blk_below hb HG.out).cell 1 rfl; have hf1 := (blk_below hb HG.out).free 1; clear hb; have hn0 : ∀ n : Nat, ((w1.drewN n).alloc (.cells #[.int .u8 65, .int .u8 (q : Int)] 5)).cell? ⟨w1.heap.size, 0, none⟩ = some (.int .u8 65) := fun n => (Blk.new (w1.drewN n) _ _).cell 0 rfl; have hn1 : ∀ n : Nat, ((w1.drewN n).alloc (.cells #[.int .u8 65, .int .u8 (q : Int)] 5)).cell? ⟨w1.heap.size, 1, none⟩ = some (.int .u8 (q : Int)) := fun n => (Blk.new (w1.drewN n) _ _).cell 1 rfl)
  go_quiet (fail)
  go_wp2_with fail
  go_quiet (fail)
  go_wp2_with (go_at_call 32; ((with_reducible refine (HA.out _).mono ?_)); rintro e w2 ⟨rfl, hb2⟩; have HB2 := Lib.hid hb2; clear hb2)
  refine bodyPost_ret (results_tmp4 rfl _ _ _) rfl ⟨rfl, ?_⟩
  exact (below_drewN HB.out _).trans ((below_of_alloc' HB2.out).mono HB.out.size)

set_option maxRecDepth 100000 in
set_option maxHeartbeats 1000000 in
theorem recv_fresh (g md got : Nat) (t : ByteArray) (ht : t.size ≤ 140737488351232) (he : (openS t.data.toList).2 = 0) (hf : goodForm md (openS t.data.toList).1) (hn : (((openS t.data.toList).1).getD 1 0).toNat = got % md) (hmd : md < 256) (hm0 : 0 < md) (w : World) (hg : Blk w g #[.int .i64 md, .int .i64 ((got % md : Nat) : Int)] 152) :
    Calls Try.prog 37 #[.pointer (some ⟨g, 0, none⟩), .string t] w fun e w' => e = .returned (.tuple #[.string (bs ((openS t.data.toList).1.drop 2)), .bool true, .string (bs (ackOf ((got + 1) % md))), .int .i64 0]) ∧ Blk w' g #[.int .i64 md, .int .i64 (((got + 1) % md : Nat) : Int)] 152 ∧ Fr (· = g) w w' := by
  have HO : Hid (∀ W : World, Calls Try.prog 27 #[.string t] W fun e w' => e = .returned (.tuple #[.string (bs (openS t.data.toList).1), .int .i64 0]) ∧ Below W.heap.size W w') := fun W => he ▸ open_any t ht W
  clear he
  generalize (openS t.data.toList).1 = X at HO hf hn
  obtain ⟨f1, f2, f3, f4⟩ := hf
  have hlt : got % md < md := Nat.mod_lt _ hm0
  have hq1 : (got + 1) % md = (got % md + 1) % md := by rw [Nat.mod_add_mod]
  rw [hq1]
  clear hq1
  generalize got % md = q0 at hn hg hlt ⊢
  have hbody : (bs X).extract 2 (bs X).size = bs (X.drop 2) := by
    apply ByteArray.ext; apply Array.toList_inj.1; simp [bs, ByteArray.data_extract]
    exact List.take_of_length_le (by rw [List.length_drop]; exact Nat.le_refl _)
  rw [← hbody]
  have hq : ((q0 : Int) + 1) % (md : Int) = (((q0 + 1) % md : Nat) : Int) := by norm_cast
  have hq2 : (q0 + 1) % md < 256 := Nat.lt_of_lt_of_le (Nat.mod_lt _ hm0) (by omega)
  generalize (q0 + 1) % md = q at hq hq2 ⊢
  clear hbody
  have hsz : (bs X).size = X.length := rfl
  have h0 : ∀ h : 0 < (bs X).size, (bs X)[0] = X.getD 0 0 := bs_get X 0
  have h1 : ∀ h : 1 < (bs X).size, (bs X)[1] = X.getD 1 0 := bs_get X 1
  generalize bs X = x at HO hsz h0 h1 ⊢
  have l0 : 0 < x.size := by omega
  have l1 : 1 < x.size := by omega
  have l1' : (1 : Int) < x.size := by omega
  have hwb : wrap64 (x[1].toNat : Int) = (x[1].toNat : Int) := byte64 _
  have q1 : decide ((x.size : Int) < 2) = false := by simp; omega
  have q2 : decide ((1502 : Int) < x.size) = false := by simp; omega
  have q3 : ((x[0].toNat : Int) != 68) = false := by rw [h0 l0, f3]; rfl
  have q4 : decide (md ≤ x[1].toNat) = false := decide_eq_false (by rw [h1 l1]; omega)
  have q5 : ((x[1].toNat : Int) == (q0 : Int)) = true := by rw [beq_iff_eq, h1 l1]; omega
  have q6 : (x[1].toNat == q0) = true := by rw [beq_iff_eq, h1 l1]; omega
  have HG := Lib.hid hg
  have HA : Hid (∀ W : World, Calls Try.prog 32 #[.string (bs [65, UInt8.ofNat q])] W fun e w' => e = .returned (.string (bs (ackOf q))) ∧ Below W.heap.size W w') := fun W => seal_any (bs [65, UInt8.ofNat q]) (by rw [bs_size]; simp) W
  have hcv := fun (W : World) (g : Nat) (h0 : W.cell? ⟨g, 0, none⟩ = some (.int .u8 65)) (h1 : W.cell? ⟨g, 1, none⟩ = some (.int .u8 (q : Int))) => conv_two (P := Try.prog) W 126 5 9 Try.underlying126 Try.underlying5 Try.underlying9 g _ _ h0 h1
  rw [show UInt8.ofNat (Int.toNat 65) = 65 from rfl, show UInt8.ofNat (Int.toNat (q : Int)) = UInt8.ofNat q from rfl] at hcv
  generalize bs [65, UInt8.ofNat q] = a at HA hcv
  generalize bs (ackOf q) = b at HA ⊢
  clear hg hsz h0 h1 f1 f2 f3 f4 hn
  go_enter Try.func37, Try.ntmps37
  go_wp2_with (go_at_call 27; ((with_reducible refine (HO.out _).mono ?_)); rintro e w1 ⟨rfl, hb⟩; have HB := Lib.hid hb; have hc0 := (blk_below hb HG.out).cell 0 rfl; have hc1 := (blk_below hb HG.out).cell 1 rfl; have hf1 := (blk_below hb HG.out).free 1; clear hb; have hn0 : ∀ n : Nat, ((w1.drewN n).alloc (.cells #[.int .u8 65, .int .u8 (q : Int)] 5)).cell? ⟨w1.heap.size, 0, none⟩ = some (.int .u8 65) := fun n => (Blk.new (w1.drewN n) _ _).cell 0 rfl; have hn1 : ∀ n : Nat, ((w1.drewN n).alloc (.cells #[.int .u8 65, .int .u8 (q : Int)] 5)).cell? ⟨w1.heap.size, 1, none⟩ = some (.int .u8 (q : Int)) := fun n => (Blk.new (w1.drewN n) _ _).cell 1 rfl)
  go_quiet (fail)
  go_wp2_with fail
  go_quiet (fail)
  go_wp2_with fail
  go_cut [] (fun W => ∃ n, W = (w1.drewN n).setCell ⟨g, 1, none⟩ (.int .i64 q))
  case first =>
    have e1 : IntKind.i64.wrap ((q0 : Int) + 1) = (q0 : Int) + 1 := by rw [IntKind.wrap_i64]; omega
    have e2 : ((q0 : Int) + 1).tmod (md : Int) = (q : Int) := by rw [Int.tmod_eq_emod_of_nonneg (by omega)]; exact hq
    have e3 : ((md : Int) == 0) = false := by simp; omega
    have e4 : md ≠ 0 := by omega
    clear hq
    go_region
    all_goals
      go_wp2_with fail
      go_meet
      exact ⟨_, rfl⟩
  case rest =>
    obtain ⟨n, hwc⟩ := hcut
    have HB3 : Hid (Blk wc g #[.int .i64 md, .int .i64 q] 152) := by rw [hwc]; exact (blk_below HB.out HG.out).set 1 _
    have HF3 : Hid (Fr (· = g) w wc) := by rw [hwc]; exact ((Fr.of_below HB.out).drewN n).set1 _ _
    clear hwc hc0 hc1 hf1 hn0 hn1
    have hc1 := HB3.out.cell 1 rfl
    have hn0 : (wc.alloc (.cells #[.int .u8 65, .int .u8 (q : Int)] 5)).cell? ⟨wc.heap.size, 0, none⟩ = some (.int .u8 65) := (Blk.new wc _ _).cell 0 rfl
    have hn1 : (wc.alloc (.cells #[.int .u8 65, .int .u8 (q : Int)] 5)).cell? ⟨wc.heap.size, 1, none⟩ = some (.int .u8 (q : Int)) := (Blk.new wc _ _).cell 1 rfl
    go_wp2_with (go_at_call 32; ((with_reducible refine (HA.out _).mono ?_)); rintro e w2 ⟨rfl, hb2⟩; have HB2 := Lib.hid hb2; clear hb2)
    refine bodyPost_ret (results_tmp4 rfl _ _ _) rfl ⟨rfl, ?_⟩
    have h := below_of_alloc' HB2.out
    exact ⟨blk_below h HB3.out, HF3.out.trans (Fr.of_below h)⟩
end Go.Proofs.Ytfeddgeihpfjfaa
