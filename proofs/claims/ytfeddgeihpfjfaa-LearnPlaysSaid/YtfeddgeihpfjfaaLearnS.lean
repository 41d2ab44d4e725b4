/- Both tables, call by call: what a call answers, and what is kept. -/
import Derived.Test.YtfeddgeihpfjfaaLearn3
import Derived.Test.YtfeddgeihpfjfaaLearnR2
set_option linter.unusedVariables false
set_option linter.unusedSimpArgs false
namespace Go.Proofs.Ytfeddgeihpfjfaa
open Go.RowKit Go.Proofs.YtfeddgeihpfjfaaW.PrintWords

structure SeeR where
  code : Int
  last : Int
  es : List Ent
def seeS (age room last : Int) (es : List Ent) (link port now : Int) : SeeR :=
  if badSee link port then ⟨1, last, es⟩ else if timeE last now ≠ 0 then ⟨timeE last now, last, es⟩ else ⟨0, now, putP room link port now (freshL age now es)⟩
theorem seeS_ok {age room last : Int} {es : List Ent} (h : TabOK age room last es) (link port now : Int) : TabOK age room (seeS age room last es link port now).last (seeS age room last es link port now).es := by
  unfold seeS
  by_cases c1 : badSee link port
  · rw [if_pos c1]; exact h
  rw [if_neg c1]
  by_cases c2 : timeE last now ≠ 0
  · rw [if_pos c2]; exact h
  rw [if_neg c2]
  obtain ⟨t0, t1, t2⟩ := timeE_zero (Decidable.not_not.1 c2)
  unfold badSee at c1
  exact put_ok (fresh_ok h t2 t1) (by omega) (by omega) (by omega) (by omega)
theorem learnSee_any (g : Nat) (age room last link port now : Int) (hlk : I64 link) (es : List Ent) (w : World) (h : Tab w g 168 170 age room last es) (hk : TabOK age room last es) :
    Calls Try.prog 57 #[.pointer (some ⟨g, 0, none⟩), .int .i64 link, .int .i64 port, .int .i64 now] w fun e w' => e = .returned (.int .i64 (seeS age room last es link port now).code) ∧ Tab w' g 168 170 age room (seeS age room last es link port now).last (seeS age room last es link port now).es ∧ Fr (· = g) w w' := by
  unfold seeS
  by_cases c1 : badSee link port
  · rw [if_pos c1]
    exact (learnSee_bad g link port now hlk w c1).mono fun _ _ ⟨e1, e2⟩ => by subst e2; exact ⟨e1, h, Fr.refl _ _⟩
  rw [if_neg c1]
  by_cases c2 : timeE last now ≠ 0
  · rw [if_pos c2]
    exact (learnSee_err g age room last link port now es w h c1 c2).mono fun _ _ ⟨e1, e2⟩ => by subst e2; exact ⟨e1, h, Fr.refl _ _⟩
  rw [if_neg c2]
  exact learnSee_ok g age room last link port now es w h hk c1 (Decidable.not_not.1 c2)
theorem seenSee_any (g : Nat) (age room last link port now : Int) (hlk : I64 link) (es : List Ent) (w : World) (h : Tab w g 98 172 age room last es) (hk : TabOK age room last es) :
    Calls Try.prog 59 #[.pointer (some ⟨g, 0, none⟩), .int .i64 link, .int .i64 port, .int .i64 now] w fun e w' => e = .returned (.int .i64 (seeS age room last es link port now).code) ∧ Tab w' g 98 172 age room (seeS age room last es link port now).last (seeS age room last es link port now).es ∧ Fr (· = g) w w' := by
  unfold seeS
  by_cases c1 : badSee link port
  · rw [if_pos c1]
    exact (seenSee_bad g link port now hlk w c1).mono fun _ _ ⟨e1, e2⟩ => by subst e2; exact ⟨e1, h, Fr.refl _ _⟩
  rw [if_neg c1]
  by_cases c2 : timeE last now ≠ 0
  · rw [if_pos c2]
    exact (seenSee_err g age room last link port now hlk es w h c1 c2).mono fun _ _ ⟨e1, e2⟩ => by subst e2; exact ⟨e1, h, Fr.refl _ _⟩
  rw [if_neg c2]
  have hz := Decidable.not_not.1 c2
  obtain ⟨t0, t1, t2⟩ := timeE_zero hz
  show Calls _ _ _ _ fun e w' => e = .returned (.int .i64 0) ∧ Tab w' g _ _ age room now (putP room link port now (freshL age now es)) ∧ Fr (· = g) w w'
  rw [put_same (fresh_ok hk t2 t1) link port]
  exact seenSee_ok g age room last link port now hlk es w h hk c1 hz
/-- Another table stays as it is. -/
theorem Tab.far {W W1 : World} {g g' : Nat} {TS TE TS' TE' : TypeId} {age room last age' room' last' : Int} {es es' : List Ent} (H : Tab W g TS TE age room last es) (H' : Tab W g' TS' TE' age' room' last' es') (f : Fr (· = g') W W1) (hS : TS' ≠ TS) (hE : TS' ≠ TE) : Tab W1 g TS TE age room last es := by
  obtain ⟨v', hb'⟩ := H'.blk
  obtain ⟨v, hb⟩ := H.blk
  refine H.fr f ?_ ?_
  · rintro rfl
    exact hS (hb'.type hb)
  · rintro k rfl cells hc
    exact hE (hb'.type hc)
theorem tab_new (W : World) (TS TE : TypeId) (age room : Int) : Tab (W.alloc (.cells #[.int .i64 age, .int .i64 room, .int .i64 0, .slice none 0 0] TS)) W.heap.size TS TE age room 0 [] :=
  ⟨none, 0, Nat.le_refl _, by unfold maxLen; omega, Blk.new W _ _, fun h => absurd h (by simp)⟩
end Go.Proofs.Ytfeddgeihpfjfaa
