/- Both sending ends: what a round of the law leaves. -/
import Derived.Test.YtfeddgeihpfjfabSend4
set_option linter.unusedVariables false
set_option linter.unusedSimpArgs false
namespace Go.Proofs.Ytfeddgeihpfjfab
open Go.RowKit Crc Go.Proofs.YtfeddgeihpfjfabW.PrintWords

theorem ackS_good {md : Nat} {s : Snd} {t : List UInt8} (he : (openS t).2 = 0) (hg : goodAck md (openS t).1) : ackS md s t = ackG s (ackN md s.got ((openS t).1.getD 1 0).toNat) := by
  unfold ackS ackG
  rw [if_neg (by rw [he]; simp), if_neg (by simp [hg])]
theorem ackS_bad {md : Nat} {s : Snd} {t : List UInt8} (h : (openS t).2 ≠ 0 ∨ ¬ goodAck md (openS t).1) : ackS md s t = (if (openS t).2 ≠ 0 then (openS t).2 else 3, s) := by
  unfold ackS
  by_cases he : (openS t).2 ≠ 0
  · rw [if_pos he, if_pos he]
  · rw [if_neg he, if_neg he, if_pos (h.resolve_left he)]
theorem frS_of {g : Nat} {v : Value} {w w' : World} (h : Fr (· = g) w w') : FrS g v w w' := h.mono fun k _ hk => .inl hk
theorem sack_any (B g md : Nat) (v : Value) (s : Snd) (hs : SndOK md s) (t : ByteArray) (ht : t.size ≤ 140737488351232) (w : World) (h : SAt w B g md v s) (hB : B ≤ w.heap.size) :
    Calls Try.prog 20 #[.pointer (some ⟨g, 0, none⟩), .string t] w fun e w' => e = .returned (.int .i64 (ackS md s t.data.toList).1) ∧ ∃ v', SAt w' B g md v' (ackS md s t.data.toList).2 ∧ FrS g v w w' ∧ RowAt w v v' := by
  by_cases hb : (openS t.data.toList).2 ≠ 0 ∨ ¬ goodAck md (openS t.data.toList).1
  · rw [ackS_bad hb]
    exact (ack_bad g md hs.mo _ _ v t ht w h.1 hb).mono fun _ _ ⟨e1, e2⟩ => ⟨e1, v, ⟨blk_below e2 h.1, h.2.below e2⟩, Fr.of_below e2, .inl rfl⟩
  · have he : (openS t.data.toList).2 = 0 := Decidable.not_not.1 fun h => hb (.inl h)
    have hgd : goodAck md (openS t.data.toList).1 := Decidable.not_not.1 fun h => hb (.inr h)
    rw [ackS_good he hgd]
    unfold ackG
    by_cases hn : ackN md s.got ((openS t.data.toList).1.getD 1 0).toNat = 0 ∨ s.all.length - s.got < ackN md s.got ((openS t.data.toList).1.getD 1 0).toNat
    · rw [if_pos hn]
      exact (ack_old B g md v s hs t ht w h he hgd hn).mono fun _ _ ⟨e1, e2⟩ => ⟨e1, v, ⟨blk_below e2 h.1, h.2.below e2⟩, Fr.of_below e2, .inl rfl⟩
    · rw [if_neg hn]
      exact (ack_ok B g md v s hs t ht w h hB he hgd hn).mono fun _ _ ⟨e1, v', e2, e3, e4⟩ => ⟨e1, v', e2, frS_of e3, .inr e4⟩
theorem mack_any (B g md : Nat) (v : Value) (s : Snd) (hs : SndOK md s) (hal : s.all.length ≤ 1000) (t : ByteArray) (ht : t.size ≤ 140737488351232) (w : World) (h : MAt w B g md v s) :
    Calls Try.prog 21 #[.pointer (some ⟨g, 0, none⟩), .string t] w fun e w' => e = .returned (.int .i64 (ackS md s t.data.toList).1) ∧ MAt w' B g md v (ackS md s t.data.toList).2 ∧ Fr (· = g) w w' := by
  by_cases hb : (openS t.data.toList).2 ≠ 0 ∨ ¬ goodAck md (openS t.data.toList).1
  · rw [ackS_bad hb]
    exact (mack_bad g md hs.mo _ _ v t ht w h.1 hb).mono fun _ _ ⟨e1, e2⟩ => ⟨e1, ⟨blk_below e2 h.1, h.2.below e2⟩, Fr.of_below e2⟩
  · have he : (openS t.data.toList).2 = 0 := Decidable.not_not.1 fun h => hb (.inl h)
    have hgd : goodAck md (openS t.data.toList).1 := Decidable.not_not.1 fun h => hb (.inr h)
    rw [ackS_good he hgd]
    exact mack_good B g md v s hs hal t ht w h he hgd
/-- Two slices of the same strings are equal. -/
theorem eqs_any (B1 B2 : Nat) (v1 v2 : Value) (xs : List ByteArray) (hl : xs.length ≤ 1000000) (w : World) (h1 : OwnAt w B1 9 1 v1 xs.length (cellsB xs)) (h2 : OwnAt w B2 9 1 v2 xs.length (cellsB xs)) :
    Calls Try.prog 16 #[v1, v2] w fun e w' => e = .returned (.bool true) ∧ ∃ m, w' = w.drewN m := by
  obtain ⟨A1, c1, rfl, _, _⟩ := h1.slice
  obtain ⟨A2, c2, rfl, _, _⟩ := h2.slice
  have H1 := Lib.hid h1
  have H2 := Lib.hid h2
  clear h1 h2
  go_enter Try.func16, Try.ntmps16
  go_wp2
  go_loopw [13] (fun i W => ∃ k : Nat, k ≤ xs.length ∧ i = .int .i64 k ∧ Hid (∃ m, W = w.drewN m)) (fun i _ => xs.length - (intOf i).toNat)
  case atStart => exact ⟨0, by omega, rfl, 0, rfl⟩
  case round =>
    obtain ⟨k, hk, rfl, hm⟩ := hrel
    obtain ⟨m, rfl⟩ := hm
    by_cases hlt : k < xs.length
    · obtain ⟨b1, o1, d1, hv1, _, _, _⟩ := ownB_some H1.out (by omega)
      obtain ⟨b2, o2, d2, hv2, _, _, _⟩ := ownB_some H2.out (by omega)
      injection hv1 with ha1 _ hd1
      injection hv2 with ha2 _ hd2
      subst ha1
      subst ha2
      subst hd1
      subst hd2
      have l1 := cellB H1.out hlt
      have l2 := cellB H2.out hlt
      have hlt' : ((k : Int) < (xs.length : Int)) = True := eq_true (by omega)
      generalize xs.getD k ByteArray.empty = b at l1 l2
      go_wp2
      go_quiet (fail)
      go_wp2
      go_roundw
      case rel => exact ⟨k + 1, by omega, by simp, _, rfl⟩
      case measure => simp [intOf]; omega
    · go_wp2
      go_ret
      exact ⟨rfl, _, rfl⟩

/-- What holds at the head of a round. -/
structure SLI (B : Nat) (w0 W : World) (gS gM md : Nat) (vS vM : Value) (s : Snd) : Prop where
  below : Below B w0 W
  sz : B ≤ W.heap.size
  bS : B ≤ gS
  bM : B ≤ gM
  tS : SAt W B gS md vS s
  tM : MAt W B gM md vM s
  apart : ∀ k, vS.ownBlock = some k → vM.ownBlock ≠ some k
  ok : SndOK md s
theorem own_lt' {W : World} {B e size n : Nat} {v : Value} {xs : List Value} (h : OwnAt W B e size v n xs) : ∀ k, v.ownBlock = some k → k < W.heap.size := by
  intro k hk
  rcases h.2 with ⟨rfl, _⟩ | ⟨g, o, cap, cur, rfl, hb, hg, _⟩
  · simp [Value.ownBlock] at hk
  · have : g = k := by simpa [Value.ownBlock] using hk
    subst this
    exact hg.lt
theorem SLI.midM {B : Nat} {w0 W W1 : World} {gS gM md : Nat} {vS vM : Value} {s : Snd} (h : SLI B w0 W gS gM md vS vM s) (f1 : FrS gS vS W W1) : MAt W1 B gM md vM s := by
  have hne1 := h.tS.2.ne h.tM.1 (by decide)
  have hne2 := h.tM.2.ne h.tS.1 (by decide)
  refine ⟨f1.blk h.tM.1 ?_, h.tM.2.fr f1 ?_⟩
  · rintro (e | e)
    · subst e
      exact absurd (h.tS.1.type' h.tM.1) (by decide)
    · exact hne1 e
  · rintro k hk (e | e)
    · subst e; exact hne2 hk
    · exact h.apart k e hk
theorem SLI.next {B : Nat} {w0 W W1 W2 : World} {gS gM md : Nat} {vS vM vS' vM' : Value} {s s' : Snd} (h : SLI B w0 W gS gM md vS vM s) (tS : SAt W1 B gS md vS' s') (f1 : FrS gS vS W W1) (r1 : RowAt W vS vS')
    (tM : MAt W2 B gM md vM' s') (f2 : FrS gM vM W1 W2) (r2 : RowAt W1 vM vM') (hk : SndOK md s') : SLI B w0 W2 gS gM md vS' vM' s' := by
  have s0 := h.sz
  have s1 := f1.size
  have s2 := f2.size
  have hm := h.midM f1
  have b1 : ∀ k, (k = gS ∨ vS.ownBlock = some k) → B ≤ k := fun k hk => hk.elim (fun e => e ▸ h.bS) (fun e => h.tS.2.base_le k e)
  have b2 : ∀ k, (k = gM ∨ vM.ownBlock = some k) → B ≤ k := fun k hk => hk.elim (fun e => e ▸ h.bM) (fun e => h.tM.2.base_le k e)
  have lS' := own_lt' tS.2
  have lM := own_lt' h.tM.2
  have hap1 : ∀ k, vS'.ownBlock = some k → vM.ownBlock ≠ some k := by
    intro k hk hk2
    rcases r1 with r | r | ⟨q, r, hq⟩
    · exact h.apart k (r ▸ hk) hk2
    · rw [r] at hk; cases hk
    · rw [r] at hk
      have : q = k := Option.some.inj hk
      have := lM k hk2
      omega
  refine ⟨below_fr (below_fr h.below f1 s0 b1) f2 (by omega) b2, by omega, h.bS, h.bM, ⟨f2.blk tS.1 ?_, tS.2.fr f2 ?_⟩, tM, ?_, hk⟩
  · rintro (e | e)
    · subst e
      exact absurd (tS.1.type' hm.1) (by decide)
    · exact hm.2.ne tS.1 (by decide) e
  · rintro k hk (e | e)
    · subst e; exact tS.2.ne hm.1 (by decide) hk
    · exact hap1 k hk e
  · intro k hk hk2
    rcases r2 with r | r | ⟨q, r, hq⟩
    · exact hap1 k hk (r ▸ hk2)
    · rw [r] at hk2; cases hk2
    · rw [r] at hk2
      have : q = k := Option.some.inj hk2
      have := lS' k hk
      omega
end Go.Proofs.Ytfeddgeihpfjfab
