/- fec.Encode: its first loop. -/
import Derived.Test.YtfeddgeihpfjfabFecW
import Derived.Test.YtfeddgeihpfjfabPk
import Derived.Deep.RegionLaw
import Derived.Deep.CutBlock
import Derived.Deep.LoopGhost
import Derived.Deep.DeepCutAuto
import Derived.WalkLawsBesides
set_option linter.unusedVariables false
set_option linter.unusedSimpArgs false
namespace Go.Proofs.Ytfeddgeihpfjfab
open Go.RowKit Go.Proofs.YtfeddgeihpfjfabW.PrintWords

theorem encB_get (xs : List Int) (i : Nat) (h : i < xs.length) : (encB xs)[i]? = some (.int .u8 (xs.getD i 0)) := by
  unfold encB
  simp [List.getD_eq_getElem?_getD, List.getElem?_eq_getElem h]
/-- The words, as the call's own. -/
def WordsAt (W : World) (base : Nat) (v : Value) (ws : List (List Int)) : Prop :=
  ∃ G : List Nat, W.ownsRow base 113 1 v ws.length (G.map fun g => Value.slice (some ⟨g, 0, none⟩) 7 7) ∧ G.length = ws.length ∧
    ∀ j, j < ws.length → base ≤ G.getD j 0 ∧ BlkM W (G.getD j 0) (encB (ws.getD j [])) 5 7 8

/-- append of m elements as one step of a region that draws. -/
theorem step_append_many {P : Program} {ops : Array Oper} {o : Oper} {a : Act} {Q : Exit → Act → World → Prop} {K : Act → World → Prop} {w0 W : World} (base : Nat) (hg : o.guard = none) (s x : Operand) (t e : TypeId) (z : Value) (bytes m : Nat)
    (ho : o.op = .call { callee := .builtin .append, args := #[s, x], argTypes := #[t, t] })
    (ht : P.underlying t = some (.slice e)) (hinfo : (P.info? e).map (fun i => (i.zero, i.size, i.bytes)) = some (some z, 1, bytes)) (hz : z.cells.size = 1) (hb0 : 0 < bytes)
    (v : Value) (n : Nat) (xs ys : List Value) (hs : a.eval s = v) (hx : a.eval x = .slice (some ⟨W.heap.size, 0, none⟩) m m) (hys : ys.length = m) (h1 : ∀ u ∈ ys, u.oneCell' = true)
    (HO : W.ownsRow base e 1 v n xs) (HB : Below base w0 W) (hbase : base ≤ W.heap.size) (hl : (n + m) * bytes ≤ 140737488355328)
    (h : ∀ v1 w1, w1.ownsRow base e 1 v1 (n + m) (xs ++ ys) → Below base w0 w1 → W.grownBy w1 v.ownBlock → K (a.put o.dst v1) w1) :
    if Region.wanted o (yielded ops a.tmps) = true then Oper.wp P o a (W.alloc (.cells ys.toArray e)) K Q else K (a.put o.dst undef) (W.alloc (.cells ys.toArray e)) := by
  have hw : Region.wanted o (yielded ops a.tmps) = true := by simp [Region.wanted, hg]
  obtain ⟨i0, hi, hzz⟩ := Option.map_eq_some_iff.1 hinfo
  simp only [Prod.mk.injEq] at hzz
  obtain ⟨hz0, hz1, hz2⟩ := hzz
  have hlen : n + m ≤ 140737488355328 := Nat.le_trans (Nat.le_mul_of_pos_right _ hb0) hl
  rw [if_pos hw]
  obtain ⟨v1, w1, hr, hown, hg, _, hat⟩ := run_append_own_at (P := P) (W.alloc (.cells ys.toArray e)) base t o.type e i0 z 1 bytes ht hi hz0 hz1 hz2 hz (by omega) v n xs (HO.alloc _) ⟨W.heap.size, 0, none⟩ m m ys (by rw [hys]; simp)
    (by simpa using World.news_of_block (cs := ys.toArray) (t := e) (fr := (0, 0)) (heap_alloc_new W (.cells ys.toArray e))) h1 (by simp only [maxLen]; omega) hl (by simp; omega)
  unfold Oper.wp execOp
  simp only [ho, resolve, invoke, builtin, Sem.run_bind, Sem.run_pure, Result.andThen_ok, List.map_toArray, List.map_cons, List.map_nil, hs, hx, hr]
  exact h v1 w1 hown ((HB.alloc hbase _).grown hg (by simp; omega) (own_base HO)) (World.grownBy.trans (World.grownBy_alloc W _ _) hg)

theorem and15 (c : Nat) (h : c < 256) : Go.bits .and .u8 (c : Int) 15 = (c : Int) % 16 := by
  have : ∀ c : Fin 256, Go.bits .and .u8 (c.val : Int) 15 = ((c.val : Int) % 16) := by decide +kernel
  exact this ⟨c, h⟩
theorem WordsAt.below {W W1 : World} {base : Nat} {v : Value} {ws : List (List Int)} (h : WordsAt W base v ws) (hb : Below W.heap.size W W1) : WordsAt W1 base v ws := by
  obtain ⟨G, h1, h2, h3⟩ := h
  refine ⟨G, pw_own_below h1 hb, h2, fun j hj => ⟨(h3 j hj).1, ?_⟩⟩
  have := (h3 j hj).2
  unfold BlkM at *
  exact (hb.block _ (lt_of_block this)).trans this
theorem BlkM.below {W W1 : World} {g a b : Nat} {cs : Array Value} {T : TypeId} (h : BlkM W g cs T a b) (hb : Below W.heap.size W W1) : BlkM W1 g cs T a b := by
  unfold BlkM at *
  exact (hb.block _ (lt_of_block h)).trans h
/-- Two words more. -/
theorem words_push {W W1 : World} {base : Nat} {v v1 : Value} {ws : List (List Int)} {g1 g2 : Nat} {x1 x2 : List Int} (G : List Nat) (h1 : W.ownsRow base 113 1 v ws.length (G.map fun g => Value.slice (some ⟨g, 0, none⟩) 7 7)) (h2 : G.length = ws.length) (h3 : ∀ j, j < ws.length → base ≤ G.getD j 0 ∧ BlkM W (G.getD j 0) (encB (ws.getD j [])) 5 7 8) (b1 : BlkM W g1 (encB x1) 5 7 8) (b2 : BlkM W g2 (encB x2) 5 7 8) (hg1 : base ≤ g1) (hg2 : base ≤ g2)
    (hown : W1.ownsRow base 113 1 v1 (ws.length + 2) ((G.map fun g => Value.slice (some ⟨g, 0, none⟩) 7 7) ++ [Value.slice (some ⟨g1, 0, none⟩) 7 7, Value.slice (some ⟨g2, 0, none⟩) 7 7])) (hgr : W.grownBy W1 v.ownBlock) :
    WordsAt W1 base v1 (ws ++ [x1, x2]) := by
  have keep : ∀ g cs, BlkM W g cs 5 7 8 → BlkM W1 g cs 5 7 8 := by
    intro g cs hb
    have hlt := hb.lt
    unfold BlkM at *
    rw [hgr.block g hlt ?_]; exact hb
    intro e
    obtain ⟨cells, hc⟩ := own_typed h1 g e.symm
    rw [hb] at hc
    injection hc with hc
    injection hc with _ hc
    exact absurd hc (by decide)
  refine ⟨G ++ [g1, g2], ?_, by simp [h2], fun j hj => ?_⟩
  · simpa using hown
  · by_cases c : j < ws.length
    · have := h3 j c
      have e1 : (G ++ [g1, g2]).getD j 0 = G.getD j 0 := by rw [List.getD_eq_getElem?_getD, List.getD_eq_getElem?_getD, List.getElem?_append_left (by omega)]
      have e2 : (ws ++ [x1, x2]).getD j [] = ws.getD j [] := by rw [List.getD_eq_getElem?_getD, List.getD_eq_getElem?_getD, List.getElem?_append_left c]
      rw [e1, e2]
      exact ⟨this.1, keep _ _ this.2⟩
    · have hj2 : j < ws.length + 2 := by simpa using hj
      by_cases e : j = ws.length
      · subst e
        have e1 : (G ++ [g1, g2]).getD ws.length 0 = g1 := by rw [List.getD_eq_getElem?_getD, List.getElem?_append_right (by omega), h2]; simp
        have e2 : (ws ++ [x1, x2]).getD ws.length [] = x1 := by rw [List.getD_eq_getElem?_getD, List.getElem?_append_right (by omega)]; simp
        rw [e1, e2]
        exact ⟨hg1, keep _ _ b1⟩
      · have e3 : j = ws.length + 1 := by omega
        subst e3
        have e1 : (G ++ [g1, g2]).getD (ws.length + 1) 0 = g2 := by rw [List.getD_eq_getElem?_getD, List.getElem?_append_right (by omega), h2]; simp
        have e2 : (ws ++ [x1, x2]).getD (ws.length + 1) [] = x2 := by rw [List.getD_eq_getElem?_getD, List.getElem?_append_right (by omega)]; simp
        rw [e1, e2]
        exact ⟨hg2, keep _ _ b2⟩

/-- The words of a byte. -/
def wordsOf (l : List UInt8) : List (List Int) := l.flatMap fun c => [wordL ((c.toNat : Int) / 16), wordL ((c.toNat : Int) % 16)]
theorem wordsOf_len (l : List UInt8) : (wordsOf l).length = 2 * l.length := by
  unfold wordsOf
  induction l with
  | nil => rfl
  | cons c l ih => rw [List.flatMap_cons, List.length_append, ih]; simp; omega
theorem wordsOf_snoc (s : ByteArray) (k : Nat) (h : k < s.size) : wordsOf (s.data.toList.take (k + 1)) = wordsOf (s.data.toList.take k) ++ [wordL ((s[k].toNat : Int) / 16), wordL ((s[k].toNat : Int) % 16)] := by
  unfold wordsOf
  rw [List.take_succ_eq_append_getElem (by simpa using h), List.flatMap_append]
  rfl
theorem infoW : (Try.prog.info? 113).map (fun i => (i.zero, i.size, i.bytes)) = some (some (.slice none 0 0), 1, 24) := by kernel_rfl

/-- Words that are read. -/
abbrev KW : Kd (List Int) := Kd.slice 5 (Kd.int .u8)
theorem words_C {W : World} {base : Nat} {v : Value} {ws : List (List Int)} (h : WordsAt W base v ws) (hw : ∀ x ∈ ws, x.length = 7) : ∃ A c, v = .slice A ws.length c ∧ ws.length ≤ c ∧ Kd.C KW W A ws.length ws := by
  obtain ⟨G, h1, h2, h3⟩ := h
  obtain ⟨A, c, rfl⟩ := own_slice h1
  have hle := own_le h1
  rcases h1.2 with ⟨hn, hx⟩ | ⟨g, cap, cur, he, hg, hh, hcap, hmax, _⟩
  · refine ⟨A, c, rfl, hle, rfl, by omega, fun h0 => by omega⟩
  · injection he with e1 e2 e3
    subst e1
    subst e3
    refine ⟨_, c, rfl, hle, rfl, by unfold maxLen at hmax; omega, fun h0 => ⟨⟨g, 0, none⟩, rfl, fun j p hj => ?_⟩⟩
    have hjl : j < ws.length := (List.getElem?_eq_some_iff.1 hj).1
    have hp : p = ws.getD j [] := by rw [List.getD_eq_getElem?_getD, hj]; rfl
    subst hp
    have hl7 : (ws.getD j []).length = 7 := hw _ (by rw [List.getD_eq_getElem?_getD, List.getElem?_eq_getElem hjl]; exact List.getElem_mem hjl)
    have hb := (h3 j hjl).2
    have hr : ReadsInt W .u8 (some ⟨G.getD j 0, 0, none⟩) 7 (ws.getD j []) := ⟨hl7, by omega, fun _ => ⟨_, rfl, fun i hi => by
      rw [add_plain]
      exact hb.cell i (encB_get _ _ (by omega))⟩⟩
    have hC : Kd.C (Kd.int .u8) W (some ⟨G.getD j 0, 0, none⟩) 7 (ws.getD j []) := Kd.C_of_reads (d := (0 : Int)) (h1 := fun _ => rfl) hr
    refine ⟨[.slice (some ⟨G.getD j 0, 0, none⟩) 7 7], rfl, ⟨some ⟨G.getD j 0, 0, none⟩, 7, by rw [hl7], by omega, by rw [hl7]; exact hC⟩, fun i u hu => ?_⟩
    have hi0 : i = 0 := by
      have := (List.getElem?_eq_some_iff.1 hu).1
      simpa using this
    subst hi0
    simp only [List.getElem?_cons_zero, Option.some.injEq] at hu
    subst hu
    have := h1.cells (g := g) rfl j (.slice (some ⟨G.getD j 0, 0, none⟩) 7 7) (by rw [List.getElem?_map, List.getElem?_eq_getElem (by omega)]; simp [List.getD_eq_getElem?_getD, List.getElem?_eq_getElem (show j < G.length by omega)])
    have ea : (⟨g, 0, none⟩ : Addr).add (j * KW.sz + 0) = ⟨g, 0 + j, none⟩ := by
      show (⟨g, 0, none⟩ : Addr).add (j * 1 + 0) = _
      rw [add_plain]; simp
    rw [ea, Nat.zero_add]; rw [add_plain] at this; exact this
/-- Row k of a block, and the whole block. -/
def rowOut (b : List (List Int)) (k : Nat) : List Int := b.map fun w => w.getD k 0
def rowsOut (b : List (List Int)) : Nat → List Int
  | 0 => []
  | k + 1 => rowsOut b k ++ rowOut b k
def encL (depth : Nat) : Nat → List (List Int) → List Int
  | 0, _ => []
  | f + 1, ws => if ws.length = 0 then [] else rowsOut (ws.take (min depth ws.length)) 7 ++ encL depth f (ws.drop (min depth ws.length))
def lenV (v : Value) : Nat := match v with | .slice _ n _ => n | _ => 0
theorem rowsOut_len (b : List (List Int)) (k : Nat) : (rowsOut b k).length = k * b.length := by
  induction k with
  | zero => simp [rowsOut]
  | succ k ih => simp only [rowsOut, List.length_append, ih, rowOut, List.length_map, Nat.succ_mul]
theorem encL_step (d : Nat) (hd : 1 ≤ d) (f : Nat) : ∀ ws : List (List Int), ws.length ≤ f → ws.length ≠ 0 → encL d f ws = rowsOut (ws.take (min d ws.length)) 7 ++ encL d (ws.drop (min d ws.length)).length (ws.drop (min d ws.length)) := by
  have key : ∀ f g : Nat, ∀ ws : List (List Int), ws.length ≤ f → ws.length ≤ g → encL d f ws = encL d g ws := by
    intro f
    induction f with
    | zero =>
      intro g ws h1 h2
      cases g with
      | zero => rfl
      | succ g => simp only [encL]; rw [if_pos (by omega)]
    | succ f ih =>
      intro g ws h1 h2
      cases g with
      | zero => simp only [encL]; rw [if_pos (by omega)]
      | succ g =>
        simp only [encL]
        by_cases c : ws.length = 0
        · rw [if_pos c, if_pos c]
        · rw [if_neg c, if_neg c, ih g _ (by rw [List.length_drop]; omega) (by rw [List.length_drop]; omega)]
  intro ws h1 h2
  cases f with
  | zero => omega
  | succ f =>
    simp only [encL]
    rw [if_neg h2]
    congr 1
    exact key _ _ _ (by rw [List.length_drop]; omega) (Nat.le_refl _)
theorem wordsOf_seven (l : List UInt8) : ∀ x ∈ wordsOf l, x.length = 7 := by
  intro x hx
  unfold wordsOf at hx
  obtain ⟨c, _, hx⟩ := List.mem_flatMap.1 hx
  simp only [List.mem_cons, List.not_mem_nil, or_false] at hx
  rcases hx with rfl | rfl <;> (unfold wordL; rw [vst_len, wst_len])
theorem infoB : (Try.prog.info? 5).map (fun i => (i.zero, i.size, i.bytes)) = some (some (.int .u8 0), 1, 1) := by kernel_rfl
/-- Element j of what is read. -/
theorem row_at {W : World} {A : Option Addr} {n : Nat} {ws : List (List Int)} (h : Kd.C KW W A n ws) (j : Nat) (hj : j < n) : ∃ ad A' c', A = some ad ∧ W.cell? (ad.add j) = some (.slice A' (ws.getD j []).length c') ∧ Kd.C (Kd.int .u8) W A' (ws.getD j []).length (ws.getD j []) := by
  obtain ⟨ad, cs, e, hl, ⟨A', c', hcs, _, hC⟩, hcell⟩ := Kd.C_get h [] (j : Int) (by omega) (by omega)
  refine ⟨ad, A', c', e, ?_, hC⟩
  have := hcell 0 _ (by rw [hcs]; rfl)
  have e1 : KW.sz = 1 := rfl
  rw [e1] at this
  simpa using this
theorem byte_at {W : World} {A : Option Addr} {n : Nat} {xs : List Int} (h : Kd.C (Kd.int .u8) W A n xs) (j : Nat) (hj : j < n) : ∃ ad, A = some ad ∧ W.cell? (ad.add j) = some (.int .u8 (xs.getD j 0)) := by
  obtain ⟨ad, cs, e, hl, hcs, hcell⟩ := Kd.C_get h 0 (j : Int) (by omega) (by omega)
  refine ⟨ad, e, ?_⟩
  have hcs' : cs = [Value.int .u8 (xs.getD j 0)] := hcs
  have := hcell 0 _ (by rw [hcs']; rfl)
  have e1 : (Kd.int .u8).sz = 1 := rfl
  rw [e1] at this
  simpa using this

attribute [local go_sem] min_ints max_ints
set_option maxRecDepth 100000 in
set_option maxHeartbeats 4000000 in
theorem fecenc_any (s : ByteArray) (d : Nat) (TOT : ByteArray) (w : World) (hs : s.size ≤ 512) (h0 : 1 ≤ d) (h1 : d ≤ 64) (HT : Hid (TOT = strOfNums (encL d (wordsOf s.data.toList).length (wordsOf s.data.toList)))) :
    Calls Try.prog 29 #[.string s, .int .i64 d] w fun e w' => e = .returned (.tuple #[.string TOT, .int .i64 0]) ∧ Below w.heap.size w w' := by
  go_enter Try.func29, Try.ntmps29
  go_wp2_with fail
  go_loopw [6, 24] (fun v i W => ∃ k : Nat, k ≤ s.size ∧ i = .int .i64 k ∧ Hid (WordsAt W w.heap.size v (wordsOf (s.data.toList.take k))) ∧ Hid (Below w.heap.size w W)) (fun _ i _ => s.size - (intOf i).toNat)
  case atStart => exact ⟨0, by omega, rfl, ⟨[], own_nil _ _ _ _, rfl, fun j hj => by simp [wordsOf] at hj⟩, Below.refl _ _⟩
  case round =>
    obtain ⟨k, hk, rfl, HV, HB⟩ := hrel
    by_cases hlt : k < s.size
    · have hc := s[k].toNat_lt
      have H1 : Hid (∀ W : World, Calls Try.prog 66 #[.int .i64 (IntKind.i64.wrap ((s[k].toNat : Int) / 16))] W fun e w' => e = .returned (.slice (some ⟨W.heap.size, 0, none⟩) 7 7) ∧ BlkM w' W.heap.size (encB (wordL ((s[k].toNat : Int) / 16))) 5 7 8 ∧ Below W.heap.size W w') := fun W => by
        rw [show IntKind.i64.wrap ((s[k].toNat : Int) / 16) = (s[k].toNat : Int) / 16 by rw [IntKind.wrap_i64]; omega]
        exact fecword_any _ W (by omega) (by omega)
      have H2 : Hid (∀ W : World, Calls Try.prog 66 #[.int .i64 (IntKind.i64.wrap (Go.bits .and .u8 (s[k].toNat : Int) 15))] W fun e w' => e = .returned (.slice (some ⟨W.heap.size, 0, none⟩) 7 7) ∧ BlkM w' W.heap.size (encB (wordL ((s[k].toNat : Int) % 16))) 5 7 8 ∧ Below W.heap.size W w') := fun W => by
        rw [and15 _ hc, show IntKind.i64.wrap ((s[k].toNat : Int) % 16) = (s[k].toNat : Int) % 16 by rw [IntKind.wrap_i64]; omega]
        exact fecword_any _ W (by omega) (by omega)
      have HW : Hid (wordsOf (s.data.toList.take (k + 1)) = wordsOf (s.data.toList.take k) ++ [wordL ((s[k].toNat : Int) / 16), wordL ((s[k].toNat : Int) % 16)]) := wordsOf_snoc s k hlt
      have HN : Hid ((wordsOf (s.data.toList.take k)).length ≤ 1024) := by
        show _ ≤ _
        rw [wordsOf_len]; simp; omega
      generalize wordsOf (s.data.toList.take k) = ws at HV HW HN
      go_wp2_with fail
      go_region_law (first
        | (go_simp; go_at_call 66; ((with_reducible refine (H1.out _).mono ?_)); rintro e w1 ⟨rfl, hb1, hb2⟩; have HC1 := Lib.hid hb1; have HC2 := Lib.hid hb2; clear hb1 hb2)
        | (go_simp; go_at_call 66; ((with_reducible refine (H2.out _).mono ?_)); rintro e w2 ⟨rfl, hb1, hb2⟩; have HD1 := Lib.hid hb1; have HD2 := Lib.hid hb2; clear hb1 hb2)
        | (obtain ⟨G, hG, hG2, hG3⟩ := ((HV.out.below (below_drew (Below.refl _ _))).below HC2.out).below HD2.out; refine step_append_many (w0 := w) w.heap.size rfl (.tmp 27) (.tmp 40) 118 113 (.slice none 0 0) 24 2 rfl Try.underlying118 infoW rfl (by omega) _ ws.length _ [Value.slice (some ⟨wr.heap.size, 0, none⟩) 7 7, Value.slice (some ⟨w1.heap.size, 0, none⟩) 7 7] (by simp [Act.eval, Act.put]) (by simp [Act.eval, Act.put]) rfl (by simp [Value.oneCell']) hG (below_then (below_then (below_drew HB.out) HB.out.size HC2.out) (Nat.le_trans HB.out.size HC2.out.size) HD2.out) (Nat.le_trans (Nat.le_trans HB.out.size HC2.out.size) HD2.out.size) (by have := HN.out; omega) (fun v1 w3 ho hb hg => ?_); have HO3 := Lib.hid ho; have HB3 := Lib.hid hb; have HG3 := Lib.hid hg; clear ho hb hg))
      all_goals
        go_wp2_with fail
        go_roundw
        case rel => exact ⟨k + 1, by omega, by go_num, by
          show WordsAt _ _ _ _
          rw [HW.out]
          exact words_push G hG hG2 hG3 (HC1.out.below HD2.out) HD1.out HB.out.size (Nat.le_trans HB.out.size HC2.out.size) HO3.out HG3.out, HB3.out⟩
        case measure => simp [intOf]; omega
    · obtain rfl : k = s.size := by omega
      have hws : Hid (wordsOf (s.data.toList.take s.size) = wordsOf s.data.toList) := by show _ = _; rw [List.take_of_length_le (by simp)]
      have HV2 : Hid (WordsAt wr w.heap.size u6 (wordsOf s.data.toList)) := by show WordsAt _ _ _ _; rw [← hws.out]; exact HV.out
      clear HV
      have HN : Hid ((wordsOf s.data.toList).length = 2 * s.size) := by show _ = _; rw [wordsOf_len]; simp
      have H7 := Lib.hid (wordsOf_seven s.data.toList)
      obtain ⟨A, c, rfl, hc, hC⟩ := words_C HV2.out H7.out
      have HC := Lib.hid hC
      clear hC HV2 hws
      generalize wordsOf s.data.toList = ws at HN H7 HT HC hc ⊢
      have hn : ws.length ≤ 1024 := by have := HN.out; omega
      obtain ⟨i0, hi, hzz⟩ := Option.map_eq_some_iff.1 infoB
      simp only [Prod.mk.injEq] at hzz
      obtain ⟨hz0, hz1, hz2⟩ := hzz
      have HZ0 := Lib.hid hz0
      have HZ1 := Lib.hid hz1
      have HZ2 := Lib.hid hz2
      clear hz0 hz1 hz2
      go_wp2_with (at_make; refine wpList_make_own _ rfl _ _ 113 rfl wr.heap.size 5 i0 (.int .u8 0) 1 Try.underlying113 hi HZ0.out HZ1.out .i64 .i64 _ (14 * s.size) rfl rfl (by first | omega | (push_cast; omega)) (by rw [HZ2.out]; omega) (by unfold maxLen; omega) (Nat.le_refl _) ?_; intro w2 hown2 hgrow2)
      have HB2 : Hid (Below wr.heap.size wr w2) := (Below.refl _ _).grown hgrow2 (Nat.le_refl _) (by intro k hk; cases hk)
      have HO2 := Lib.hid hown2
      have HBw := Lib.hid HB.out
      clear hown2 hgrow2 HB
      obtain ⟨iw, hiw, _⟩ := Option.map_eq_some_iff.1 infoW
      obtain ⟨iw2, hiw2, hzw⟩ := Option.map_eq_some_iff.1 infoW
      simp only [Prod.mk.injEq] at hzw
      have HZW := Lib.hid hzw.2.1
      clear hzw hi
      obtain ⟨Wb, hWb⟩ : ∃ W : World, W = wr := ⟨_, rfl⟩
      rw [← hWb] at HC HB2 HO2 HBw ⊢
      clear hWb
      go_loopw [6, 8] (fun v6 v8 W => ∃ (A : Option Addr) (c : Nat) (rest : List (List Int)) (outL : List Int), v6 = .slice A rest.length c ∧ rest.length ≤ c ∧ rest.length ≤ 1024 ∧ outL.length + 7 * rest.length ≤ 7168 ∧ Hid (Kd.C KW Wb A rest.length rest) ∧ Hid (∀ x ∈ rest, x.length = 7) ∧ Hid (W.ownsRow Wb.heap.size 5 1 v8 outL.length (nums .u8 outL)) ∧ Hid (Below Wb.heap.size Wb W) ∧ Hid (TOT = strOfNums (outL ++ encL d rest.length rest))) (fun v6 _ _ => lenV v6)
      case atStart => exact ⟨A, c, ws, [], rfl, hc, hn, by simp; omega, HC, H7, HO2, HB2, HT⟩
      case round =>
        clear HC H7 HO2 HB2 HT hc hn HN
        obtain ⟨A2, c2, rest, outL, rfl, hc2, hr2, ho2, HC, H7, HO, HB, HT⟩ := hrel
        by_cases hr : 0 < rest.length
        · have hrr : ¬ (rest.length = 0) := by omega
          have HSTEP : Hid _ := encL_step d h0 rest.length rest (Nat.le_refl _) hrr
          have HM : Hid (min d rest.length = min d rest.length) := rfl
          generalize hm : min d rest.length = m at HSTEP
          have hm1 : m ≤ rest.length := by omega
          have hm0 : 1 ≤ m := by omega
          have hmm : min (d : Int) (rest.length : Int) = (m : Int) := by omega
          clear hm hrr HM
          have hs1 := cut_to (P := Try.prog) 118 113 .i64 Try.underlying118 hiw2 A2 rest.length c2 (m : Int) (by omega) (by omega) hc2
          have hs2 := cut_from (P := Try.prog) 118 113 .i64 Try.underlying118 hiw2 1 HZW.out A2 rest.length c2 (m : Int) (by omega) (by omega)
          rw [Int.toNat_natCast] at hs1 hs2
          have HC3 : Hid _ := Kd.C_drop HC.out hm1 hc2
          have HC4 : Hid _ := Kd.C_take HC.out hm1
          have e1 : (rest.drop m).length = rest.length - m := List.length_drop
          have e2 : (rest.take m).length = m := by rw [List.length_take]; omega
          have e3 : (1 : Nat) = KW.sz := rfl
          rw [← e3] at HC3
          generalize (if c2 = m then A2 else A2.map (·.add (m * 1))) = A3 at hs2 HC3
          have HB7 : Hid (∀ x ∈ rest.take m, x.length = 7) := fun x hx => H7.out x (List.mem_of_mem_take hx)
          have HD7 : Hid (∀ x ∈ rest.drop m, x.length = 7) := fun x hx => H7.out x (List.mem_of_mem_drop hx)
          generalize rest.take m = blk at HC4 e2 HB7 HSTEP
          generalize hrd : rest.drop m = rst at HC3 e1 HD7 HSTEP
          clear hrd
          have hT2 : Hid (TOT = strOfNums (outL ++ (rowsOut blk 7 ++ encL d rst.length rst))) := HT.out.trans (by rw [HSTEP.out])
          clear HT HSTEP H7 HC
          have HE2 := Lib.hid e2
          rw [e2] at HC4
          rw [e1] at HC3
          have HE1 := Lib.hid e1
          clear e1 e2 e3
          have hrm : rest.length ≤ 1024 := hr2
          generalize hrl : rest.length = rl at hm1 hmm hs1 hs2 HC3 HE1 hc2 hr2 ho2 hr
          have HRL := Lib.hid hrl
          clear hrl hrm
          go_wp2_with fail
          have HO1 := Lib.hid HO.out
          have HB1 := Lib.hid HB.out
          clear HO HB
          go_loopw [8, 60] (fun v8 i W => ∃ (k : Nat) (L : List Int), k ≤ 7 ∧ i = .int .i64 k ∧ Hid (L = outL ++ rowsOut blk k) ∧ Hid (W.ownsRow Wb.heap.size 5 1 v8 L.length (nums .u8 L)) ∧ Hid (Below Wb.heap.size Wb W)) (fun _ i _ => 7 - (intOf i).toNat)
          case atStart => exact ⟨0, outL, by omega, rfl, by show outL = _; simp [rowsOut], HO1, HB1⟩
          case round =>
            clear HO1 HB1
            obtain ⟨k, L, hk, rfl, HL, HO, HB⟩ := hrel
            have HLL : Hid (L.length = outL.length + k * m) := by
              show _ = _
              rw [HL.out, List.length_append, rowsOut_len, HE2.out]
            by_cases hk7 : k < 7
            · have hk7' : (k : Int) < 7 := by omega
              have HLX : Hid (L.length ≤ 7168) := by
                show _ ≤ _
                have h2 : k * m ≤ 7 * rl := Nat.mul_le_mul (by omega) hm1
                have := HLL.out; omega
              go_wp2_with fail
              go_loopw [8, 65] (fun v8 i W => ∃ (q : Nat) (L2 : List Int), q ≤ m ∧ i = .int .i64 q ∧ Hid (L2 = L ++ (rowOut blk k).take q) ∧ Hid (W.ownsRow Wb.heap.size 5 1 v8 L2.length (nums .u8 L2)) ∧ Hid (Below Wb.heap.size Wb W)) (fun _ i _ => m - (intOf i).toNat)
              case atStart => exact ⟨0, L, by omega, rfl, by show L = _; simp, HO, HB⟩
              case round =>
                clear HO HB
                obtain ⟨q, L2, hq, rfl, HL2, HO, HB⟩ := hrel
                by_cases hqm : q < m
                · obtain ⟨ad, A', c', rfl, hcell, hCb⟩ := row_at (Kd.C_below HC4.out HB.out) q hqm
                  have hl7 : (blk.getD q []).length = 7 := HB7.out _ (by rw [List.getD_eq_getElem?_getD, List.getElem?_eq_getElem (by rw [HE2.out]; exact hqm)]; exact List.getElem_mem _)
                  have hx : Hid ((rowOut blk k).take (q + 1) = (rowOut blk k).take q ++ [(blk.getD q []).getD k 0]) := by
                    show _ = _
                    have hlt : q < (rowOut blk k).length := by simp [rowOut, HE2.out, hqm]
                    rw [List.take_succ_eq_append_getElem hlt]
                    congr 2
                    simp [rowOut, List.getD_eq_getElem?_getD, List.getElem?_eq_getElem (show q < blk.length by rw [HE2.out]; exact hqm)]
                  obtain ⟨ad2, rfl, hbyte⟩ := byte_at hCb k (by omega)
                  rw [hl7] at hcell
                  have HLN : Hid (L2.length ≤ 8200) := by
                    show _ ≤ _
                    rw [HL2.out, List.length_append, List.length_take]
                    have := HLX.out; omega
                  generalize (blk.getD q []).getD k 0 = x at hx hbyte
                  have H7x := Lib.hid hl7
                  clear hl7 hCb
                  go_wp2_with (at_builtin; refine print_append_num Wb.heap.size rfl (.tmp 69) (.tmp 74) 113 5 .u8 1 rfl Try.underlying113 infoB (by omega) _ L2 x rfl rfl HO.out HB.out HB.out.size (by have := HLN.out; omega) ?_; intro v1 w1 hown hB hgr hat; have HO5 := Lib.hid hown; have HB5 := Lib.hid hB; clear hown hB hgr hat)
                  go_roundw
                  case rel => first | exact ⟨q + 1, L2 ++ [x], by omega, by go_num, Lib.hid (by rw [HL2.out, hx.out, List.append_assoc]), HO5, HB5⟩ | ((repeat apply Exists.intro); exact ⟨⟨q + 1, L2 ++ [x], by omega, by go_num, Lib.hid (by rw [HL2.out, hx.out, List.append_assoc]), HO5, HB5⟩, rfl⟩)
                  case measure => simp [intOf]; omega
                · obtain rfl : q = m := by omega
                  have HL3 : Hid (L2 = outL ++ rowsOut blk (k + 1)) := by
                    show _ = _
                    rw [HL2.out, HL.out, List.take_of_length_le (by simp [rowOut, HE2.out]), List.append_assoc]; rfl
                  go_wp2_with fail
                  go_roundw
                  case rel => exact ⟨k + 1, L2, by omega, by go_num, HL3.out, HO, HB⟩
                  case measure => simp [intOf]; omega
            · obtain rfl : k = 7 := by omega
              have HT3 : Hid (TOT = strOfNums (L ++ encL d rst.length rst)) := hT2.out.trans (by rw [HL.out, List.append_assoc])
              go_wp2_with fail
              go_roundw
              case rel => exact ⟨A3, c2 - m, rst, L, by rw [HE1.out], by rw [HE1.out]; omega, by rw [HE1.out]; omega, by rw [HE1.out, HLL.out]; omega, by rw [HE1.out]; exact HC3, HD7, HO, HB, HT3⟩
              case measure => simp [lenV]; omega
        · have hr0 : rest.length = 0 := by omega
          have HT3 : Hid (TOT = strOfNums outL) := HT.out.trans (by rw [hr0]; simp [encL])
          have hcv := own_string (P := Try.prog) Try.underlying113 Try.underlying5 Try.underlying9 HO.out
          have HBZ : Hid (Below w.heap.size w wr) := below_then HBw.out HBw.out.size HB.out
          go_wp2_with fail
          go_ret2
          exact ⟨by rw [HT3.out]; rfl, HBZ.out⟩
end Go.Proofs.Ytfeddgeihpfjfab
