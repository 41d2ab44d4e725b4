/- Talks in memory, and what both sides refuse (plain). -/
import Derived.Test.YtfeddgeihpfjfaaMem
namespace Go.Proofs.Ytfeddgeihpfjfaa
open Go.RowKit

/-- A transmission. -/
structure TK where
  f : Int
  a : Int
  l : Int
deriving Inhabited

/-- A slice of transmissions, below block number B: three cells each, in the walk's own spelling. -/
def Talks (B : Nat) (w : World) (A : Option Addr) (ts : List TK) : Prop :=
  ts.length ≤ 9223372036854775807 ∧ (∀ t ∈ ts, I64 t.f ∧ I64 t.a ∧ I64 t.l) ∧ (0 < ts.length → ∃ ad, A = some ad ∧ ad.block < B ∧ ∀ j, j < ts.length →
    w.cell? (ad.add (j * 3)) = some (.int .i64 (ts.getD j default).f) ∧ w.cell? ⟨(ad.add (j * 3)).block, (ad.add (j * 3)).off + 1, none⟩ = some (.int .i64 (ts.getD j default).a) ∧
    w.cell? ⟨(ad.add (j * 3)).block, (ad.add (j * 3)).off + 2, none⟩ = some (.int .i64 (ts.getD j default).l))

theorem add_block' (a : Addr) (n : Nat) : (a.add n).block = a.block := by unfold Addr.add; split <;> rfl
theorem Talks.below {B : Nat} {w w' : World} {A : Option Addr} {ts : List TK} (h : Talks B w A ts) (hb : Below B w w') : Talks B w' A ts := by
  refine ⟨h.1, h.2.1, fun h0 => ?_⟩
  obtain ⟨ad, e, hB, hc⟩ := h.2.2 h0
  refine ⟨ad, e, hB, fun j hj => ?_⟩
  have hk : (ad.add (j * 3)).block < B := by rw [add_block']; exact hB
  obtain ⟨h1, h2, h3⟩ := hc j hj
  exact ⟨(hb.cell hk).trans h1, (hb.cell (p := ⟨_, _, none⟩) hk).trans h2, (hb.cell (p := ⟨_, _, none⟩) hk).trans h3⟩

def talkE (n : Nat) (t : TK) : Int := if t.f < 0 ∨ (n : Int) ≤ t.f then 1 else if t.a < 0 ∨ 1000000 < t.a ∨ t.l < 1 ∨ 10000 < t.l then 10 else 0
def talksE (n : Nat) : List TK → Int
  | [] => 0
  | t :: r => if talkE n t ≠ 0 then talkE n t else talksE n r
def placesE : List Int → Int
  | [] => 0
  | p :: r => if p < 0 ∨ 1000 < p then 10 else placesE r
def lineE (ps : List Int) (ts : List TK) : Int := if 16 < ps.length ∨ 32 < ts.length then 2 else if placesE ps ≠ 0 then placesE ps else talksE ps.length ts

theorem placesE_zero : ∀ {ps : List Int}, placesE ps = 0 → ∀ p ∈ ps, 0 ≤ p ∧ p ≤ 1000
  | [], _ => by simp
  | q :: r, h => by
    unfold placesE at h
    split at h
    · omega
    · intro p hp
      rcases List.mem_cons.1 hp with rfl | hp
      · omega
      · exact placesE_zero h p hp
theorem talksE_zero {n : Nat} : ∀ {ts : List TK}, talksE n ts = 0 → ∀ t ∈ ts, talkE n t = 0
  | [], _ => by simp
  | q :: r, h => by
    unfold talksE at h
    split at h
    · rename_i h1; exact absurd h h1
    · rename_i h1
      intro t ht
      rcases List.mem_cons.1 ht with rfl | ht
      · exact Classical.not_not.1 h1
      · exact talksE_zero h t ht
theorem talkE_zero {n : Nat} {t : TK} (h : talkE n t = 0) : (0 ≤ t.f ∧ t.f < n) ∧ (0 ≤ t.a ∧ t.a ≤ 1000000) ∧ (1 ≤ t.l ∧ t.l ≤ 10000) := by
  unfold talkE at h
  split at h
  · omega
  · split at h <;> omega
end Go.Proofs.Ytfeddgeihpfjfaa
