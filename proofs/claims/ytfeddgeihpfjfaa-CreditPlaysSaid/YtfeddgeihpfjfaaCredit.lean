/- The contracts of package credit. -/
import Derived.Test.YtfeddgeihpfjfaaProg
import Derived.Test.YtfeddgeihpfjfaaMem
import Derived.Deep.QuietTactic
import Derived.BigQuiet
import Derived.Lib.Hide
namespace Go.Proofs.Ytfeddgeihpfjfaa
open Go.RowKit

theorem grant_any (g : Nat) (a b c : Int) (w : World) (hb : Blk w g #[.int .i64 a, .int .i64 b, .int .i64 c] 140) :
    Calls Try.prog 16 #[.pointer (some ⟨g, 0, none⟩)] w fun e w' => e = .returned (.int .i64 (wrap64 (a + c))) ∧ ∃ n, w' = w.drewN n := by
  have h0 := hb.cell 0 rfl
  have h2 := hb.cell 2 rfl
  clear hb
  go_enter Try.func16, Try.ntmps16
  go_wp2
  go_quiet (fail)
  go_wp2
  go_ret
  exact ⟨by rw [Int.add_comm a c]; rfl, _, rfl⟩

theorem held_any (g : Nat) (a b c : Int) (w : World) (hb : Blk w g #[.int .i64 a, .int .i64 b, .int .i64 c] 140) :
    Calls Try.prog 23 #[.pointer (some ⟨g, 0, none⟩)] w fun e w' => e = .returned (.int .i64 (wrap64 (b - c))) ∧ ∃ n, w' = w.drewN n := by
  have h0 := hb.cell 1 rfl
  have h2 := hb.cell 2 rfl
  clear hb
  go_enter Try.func23, Try.ntmps23
  go_wp2
  go_quiet (fail)
  go_wp2
  go_ret
  exact ⟨rfl, _, rfl⟩

theorem sent_any (g : Nat) (a b : Int) (w : World) (hb : Blk w g #[.int .i64 a, .int .i64 b] 142) :
    Calls Try.prog 24 #[.pointer (some ⟨g, 0, none⟩)] w fun e w' => e = .returned (.int .i64 b) ∧ ∃ n, w' = w.drewN n := by
  have h0 := hb.cell 1 rfl
  clear hb
  go_enter Try.func24, Try.ntmps24
  go_wp2
  go_ret
  exact ⟨rfl, 0, rfl⟩

theorem newtaker_any (w : World) :
    Calls Try.prog 17 #[] w fun e w' => e = .returned (.pointer (some ⟨w.heap.size, 0, none⟩)) ∧ w' = w.alloc (.cells #[.int .i64 0, .int .i64 0] 142) := by
  go_enter Try.func17, Try.ntmps17
  go_wp2
  go_ret
  exact ⟨rfl, rfl⟩

theorem newgiver_ok (room : Int) (w : World) (h1 : 1 ≤ room) (h2 : room ≤ 1000000) :
    Calls Try.prog 15 #[.int .i64 room] w fun e w' => e = .returned (.tuple #[.pointer (some ⟨w.heap.size, 0, none⟩), .int .i64 0]) ∧ w' = w.alloc (.cells #[.int .i64 room, .int .i64 0, .int .i64 0] 140) := by
  go_enter Try.func15, Try.ntmps15
  go_wp2
  go_ret2
  exact ⟨rfl, rfl⟩

theorem newgiver_bad (room : Int) (w : World) (h : room < 1 ∨ 1000000 < room) :
    Calls Try.prog 15 #[.int .i64 room] w fun e w' => e = .returned (.tuple #[.pointer none, .int .i64 1]) ∧ w' = w := by
  rcases h with h | h
  · go_enter Try.func15, Try.ntmps15
    go_wp2
    go_ret2
    exact ⟨rfl, rfl⟩
  · have h' : 1 ≤ room := by omega
    go_enter Try.func15, Try.ntmps15
    go_wp2
    go_ret2
    exact ⟨rfl, rfl⟩

/-- What 'In' does: its answer, and what has come in. -/
def inS (a b c n : Int) : Int × Int := if n < 0 then (1, b) else if n > wrap64 (wrap64 (a + c) - b) then (5, b) else (0, wrap64 (b + n))

theorem in_any (g : Nat) (a b c n : Int) (w : World) (hb : Blk w g #[.int .i64 a, .int .i64 b, .int .i64 c] 140) :
    Calls Try.prog 19 #[.pointer (some ⟨g, 0, none⟩), .int .i64 n] w fun e w' => e = .returned (.int .i64 (inS a b c n).1) ∧
      Blk w' g #[.int .i64 a, .int .i64 (inS a b c n).2, .int .i64 c] 140 ∧ Fr (· = g) w w' := by
  have HB := Lib.hid hb
  have h1 := hb.cell 1 rfl
  have hf := hb.free 1
  clear hb
  by_cases c1 : n < 0
  · have HE : inS a b c n = (1, b) := by simp [inS, c1]
    rw [HE]; clear HE
    go_enter Try.func19, Try.ntmps19
    go_wp2
    go_ret
    exact ⟨rfl, HB.out, Fr.refl _ _⟩
  · by_cases c2 : n > wrap64 (wrap64 (a + c) - b)
    · have HE : inS a b c n = (5, b) := by simp [inS, c1, c2]
      rw [HE]; clear HE
      go_enter Try.func19, Try.ntmps19
      go_wp2
      go_quiet ((go_at_call 16; exact Calls.quiet_of (grant_any g a b c _ HB.out)))
      go_wp2
      go_ret
      exact ⟨rfl, HB.out, (Fr.refl _ _).drewN _⟩
    · have HE : inS a b c n = (0, wrap64 (b + n)) := by simp [inS, c1, c2]
      rw [HE]; clear HE
      go_enter Try.func19, Try.ntmps19
      go_wp2
      go_quiet ((go_at_call 16; exact Calls.quiet_of (grant_any g a b c _ HB.out)))
      go_wp2
      go_ret
      exact ⟨rfl, (HB.out.drewN _).set 1 _, ((Fr.refl _ _).drewN _).set1 _ _⟩

theorem take_bad (g : Nat) (n : Int) (w : World) (hn : n < 0) :
    Calls Try.prog 20 #[.pointer (some ⟨g, 0, none⟩), .int .i64 n] w fun e w' => e = .returned (.tuple #[.int .i64 0, .int .i64 1]) ∧ w' = w := by
  go_enter Try.func20, Try.ntmps20
  go_wp2
  go_ret2
  exact ⟨rfl, rfl⟩

theorem take_ok (g : Nat) (a b c n : Int) (w : World) (hn : 0 ≤ n) (hb : Blk w g #[.int .i64 a, .int .i64 b, .int .i64 c] 140) :
    Calls Try.prog 20 #[.pointer (some ⟨g, 0, none⟩), .int .i64 n] w fun e w' => e = .returned (.tuple #[.int .i64 (min n (wrap64 (b - c))), .int .i64 0]) ∧
      Blk w' g #[.int .i64 a, .int .i64 b, .int .i64 (wrap64 (c + min n (wrap64 (b - c))))] 140 ∧ Fr (· = g) w w' := by
  have HB := Lib.hid hb
  have h2 := hb.cell 2 rfl
  have hf := hb.free 2
  clear hb
  go_enter Try.func20, Try.ntmps20
  go_wp2_with (go_at_call 23; refine (held_any g a b c _ HB.out).mono ?_; rintro e w1 ⟨rfl, k, rfl⟩)
  all_goals
    go_ret2
    first
    | (rw [Int.min_eq_right (by omega)]; exact ⟨rfl, (HB.out.drewN _).set 2 _, ((Fr.refl _ _).drewN _).set1 _ _⟩)
    | (rw [Int.min_eq_left (by omega)]; exact ⟨rfl, (HB.out.drewN _).set 2 _, ((Fr.refl _ _).drewN _).set1 _ _⟩)

/-- What 'Hear' does. -/
def hearS (a n : Int) : Int × Int := if n < 0 then (1, a) else if n < a then (13, a) else (0, n)

theorem hear_any (g : Nat) (a b n : Int) (w : World) (hb : Blk w g #[.int .i64 a, .int .i64 b] 142) :
    Calls Try.prog 21 #[.pointer (some ⟨g, 0, none⟩), .int .i64 n] w fun e w' => e = .returned (.int .i64 (hearS a n).1) ∧
      Blk w' g #[.int .i64 (hearS a n).2, .int .i64 b] 142 ∧ Fr (· = g) w w' := by
  have HB := Lib.hid hb
  have h1 := hb.cell 0 rfl
  have hf := hb.free 0
  clear hb
  by_cases c1 : n < 0
  · have HE : hearS a n = (1, a) := by simp [hearS, c1]
    rw [HE]; clear HE
    go_enter Try.func21, Try.ntmps21
    go_wp2
    go_ret
    exact ⟨rfl, HB.out, Fr.refl _ _⟩
  · by_cases c2 : n < a
    · have HE : hearS a n = (13, a) := by simp [hearS, c1, c2]
      rw [HE]; clear HE
      go_enter Try.func21, Try.ntmps21
      go_wp2
      go_ret
      exact ⟨rfl, HB.out, Fr.refl _ _⟩
    · have HE : hearS a n = (0, n) := by simp [hearS, c1, c2]
      rw [HE]; clear HE
      go_enter Try.func21, Try.ntmps21
      go_wp2
      go_ret
      exact ⟨rfl, HB.out.set 0 _, (Fr.refl _ _).set1 _ _⟩

theorem send_bad (g : Nat) (n : Int) (w : World) (hn : n < 0) :
    Calls Try.prog 22 #[.pointer (some ⟨g, 0, none⟩), .int .i64 n] w fun e w' => e = .returned (.tuple #[.int .i64 0, .int .i64 1]) ∧ w' = w := by
  go_enter Try.func22, Try.ntmps22
  go_wp2
  go_ret2
  exact ⟨rfl, rfl⟩

theorem send_ok (g : Nat) (a b n : Int) (w : World) (hn : 0 ≤ n) (hb : Blk w g #[.int .i64 a, .int .i64 b] 142) :
    Calls Try.prog 22 #[.pointer (some ⟨g, 0, none⟩), .int .i64 n] w fun e w' => e = .returned (.tuple #[.int .i64 (min n (wrap64 (a - b))), .int .i64 0]) ∧
      Blk w' g #[.int .i64 a, .int .i64 (wrap64 (b + min n (wrap64 (a - b))))] 142 ∧ Fr (· = g) w w' := by
  have HB := Lib.hid hb
  have h0 := hb.cell 0 rfl
  have h1 := hb.cell 1 rfl
  have hf := hb.free 1
  clear hb
  go_enter Try.func22, Try.ntmps22
  go_wp2
  go_quiet (fail)
  go_wp2
  all_goals
    go_ret2
    first
    | (rw [Int.min_eq_right (by omega)]; exact ⟨rfl, (HB.out.drewN _).set 1 _, ((Fr.refl _ _).drewN _).set1 _ _⟩)
    | (rw [Int.min_eq_left (by omega)]; exact ⟨rfl, (HB.out.drewN _).set 1 _, ((Fr.refl _ _).drewN _).set1 _ _⟩)
end Go.Proofs.Ytfeddgeihpfjfaa
