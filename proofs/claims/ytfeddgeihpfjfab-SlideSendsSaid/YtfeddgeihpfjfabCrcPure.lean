/- CRC-32 as plain functions on words of 32 bits; the two ways to compute it agree. No program here. -/
set_option linter.unusedSimpArgs false
set_option linter.unusedVariables false
namespace Go.Proofs.Ytfeddgeihpfjfab.Crc

abbrev W := BitVec 32
def poly : W := 0xedb88320#32
/-- Multiplied by x. -/
def half (c : W) : W := if c.getLsbD 0 then (c >>> 1) ^^^ poly else c >>> 1
def hpow : Nat → W → W
  | 0, c => c
  | n + 1, c => hpow n (half c)
def halfs (n : Nat) (c : W) : W := hpow n c

theorem half_eq (c : W) : half c = (c >>> 1) ^^^ (if c.getLsbD 0 then poly else 0#32) := by
  unfold half; split <;> simp
theorem half_xor (a b : W) : half (a ^^^ b) = half a ^^^ half b := by
  simp only [half_eq, BitVec.ushiftRight_xor_distrib, BitVec.getLsbD_xor]
  cases a.getLsbD 0 <;> cases b.getLsbD 0 <;> simp only [Bool.xor_false, Bool.xor_true, Bool.false_xor, Bool.true_xor, Bool.not_false, Bool.not_true, Bool.false_eq_true, if_true, if_false, BitVec.xor_zero]
  · ac_rfl
  · ac_rfl
  · rw [show a >>> 1 ^^^ poly ^^^ (b >>> 1 ^^^ poly) = a >>> 1 ^^^ b >>> 1 ^^^ (poly ^^^ poly) by ac_rfl, BitVec.xor_self, BitVec.xor_zero]
theorem half_zero : half 0#32 = 0#32 := by decide
theorem hpow_xor (n : Nat) : ∀ a b : W, hpow n (a ^^^ b) = hpow n a ^^^ hpow n b := by
  induction n with
  | zero => intro a b; rfl
  | succ n ih => intro a b; simp only [hpow]; rw [half_xor, ih]
theorem hpow_zero (n : Nat) : hpow n 0#32 = 0#32 := by
  induction n with
  | zero => rfl
  | succ n ih => simp only [hpow]; rw [half_zero, ih]
theorem hpow_succ (n : Nat) : ∀ c : W, hpow (n + 1) c = half (hpow n c) := by
  induction n with
  | zero => intro c; rfl
  | succ n ih => intro c; rw [hpow, ih]; rfl

/-- A byte as a word. -/
def wd (b : UInt8) : W := BitVec.ofNat 32 b.toNat
/-- The k-th bit of a byte, as a word. -/
def bitw (b : UInt8) (k : Nat) : W := if b.toNat.testBit k then 1#32 else 0#32
/-- One byte, bit by bit: from bit k on, n bits. -/
def feed : Nat → Nat → W → UInt8 → W
  | 0, _, c, _ => c
  | n + 1, k, c, b => feed n (k + 1) (half (c ^^^ bitw b k)) b
/-- One byte, by the table. -/
def step (c : W) (b : UInt8) : W := (c >>> 8) ^^^ hpow 8 ((c ^^^ wd b) &&& 255#32)

theorem feed_xor (n : Nat) : ∀ (k : Nat) (c d : W) (b : UInt8), feed n k (c ^^^ d) b = hpow n c ^^^ feed n k d b := by
  induction n with
  | zero => intro k c d b; rfl
  | succ n ih =>
    intro k c d b
    simp only [feed, hpow]
    rw [show c ^^^ d ^^^ bitw b k = c ^^^ (d ^^^ bitw b k) from by ac_rfl, half_xor, ih]

theorem byte_of (b : UInt8) : b = UInt8.ofNat (⟨b.toNat, b.toNat_lt⟩ : Fin 256).val := by simp
theorem feed_zero256 : ∀ i : Fin 256, feed 8 0 0#32 (UInt8.ofNat i.val) = hpow 8 (wd (UInt8.ofNat i.val)) := by decide +kernel
theorem feed_zero (b : UInt8) : feed 8 0 0#32 b = hpow 8 (wd b) := by rw [byte_of b]; exact feed_zero256 _

theorem half_shl (z : W) (n : Nat) (hn : n < 31) (hz : z >>> (31 - n) = 0#32) : half (z <<< (n + 1)) = z <<< n := by
  have h0 : (z <<< (n + 1)).getLsbD 0 = false := by simp
  rw [half_eq, h0]
  simp only [Bool.false_eq_true, if_false, BitVec.xor_zero]
  apply BitVec.eq_of_getLsbD_eq
  intro i hi
  simp only [BitVec.getLsbD_ushiftRight, BitVec.getLsbD_shiftLeft]
  by_cases h1 : 1 + i < 32
  · simp [h1, hi, show 1 + i < n + 1 ↔ i < n by omega, show 1 + i - (n + 1) = i - n by omega]
  · have : i = 31 := by omega
    subst this
    have hb := congrArg (fun x => x.getLsbD 0) hz
    simp at hb
    simp [show ¬ 31 < n by omega, hb]

theorem hpow8_shl (z : W) (hz : z >>> 24 = 0#32) : hpow 8 (z <<< 8) = z := by
  have h : ∀ n, n < 8 → z >>> (31 - n) = 0#32 := by
    intro n hn
    rw [show 31 - n = 24 + (7 - n) by omega, BitVec.shiftRight_add, hz]; simp
  simp only [hpow]
  rw [half_shl z 7 (by omega) (h 7 (by omega)), half_shl z 6 (by omega) (h 6 (by omega)), half_shl z 5 (by omega) (h 5 (by omega)), half_shl z 4 (by omega) (h 4 (by omega)),
    half_shl z 3 (by omega) (h 3 (by omega)), half_shl z 2 (by omega) (h 2 (by omega)), half_shl z 1 (by omega) (h 1 (by omega)), half_shl z 0 (by omega) (h 0 (by omega))]
  simp

theorem low_high (y : W) : y = ((y >>> 8) <<< 8) ^^^ (y &&& 255#32) := by
  apply BitVec.eq_of_getLsbD_eq
  intro i hi
  have h255 : (255#32).getLsbD i = decide (i < 8) := by
    have : ∀ j : Fin 32, (255#32).getLsbD j.val = decide (j.val < 8) := by decide
    exact this ⟨i, hi⟩
  simp only [BitVec.getLsbD_xor, BitVec.getLsbD_shiftLeft, BitVec.getLsbD_ushiftRight, BitVec.getLsbD_and, h255]
  by_cases h : i < 8
  · simp [h]
  · simp [h, hi, show 8 + (i - 8) = i by omega]

theorem hpow8 (y : W) : hpow 8 y = (y >>> 8) ^^^ hpow 8 (y &&& 255#32) := by
  conv => lhs; rw [low_high y]
  rw [hpow_xor, hpow8_shl]
  apply BitVec.eq_of_getLsbD_eq
  intro i hi
  simp only [BitVec.getLsbD_ushiftRight]
  rw [BitVec.getLsbD_of_ge _ _ (by omega)]; simp

theorem wd_high256 : ∀ i : Fin 256, wd (UInt8.ofNat i.val) >>> 8 = 0#32 := by decide +kernel
theorem wd_high (b : UInt8) : wd b >>> 8 = 0#32 := by rw [byte_of b]; exact wd_high256 _

/-- The two ways through one byte. -/
theorem feed_step (c : W) (b : UInt8) : feed 8 0 c b = step c b := by
  have h := feed_xor 8 0 c 0#32 b
  rw [BitVec.xor_zero] at h
  rw [h, feed_zero, ← hpow_xor, hpow8, step]
  congr 1
  rw [BitVec.ushiftRight_xor_distrib, wd_high, BitVec.xor_zero]

/-- The register behind a string. -/
def reg (c : W) (l : List UInt8) : W := l.foldl step c
def sum (l : List UInt8) : W := ~~~ (reg 0xffffffff#32 l)
theorem reg_snoc (c : W) (l : List UInt8) (b : UInt8) : reg c (l ++ [b]) = step (reg c l) b := by simp [reg]

theorem sum_check : sum [49, 50, 51, 52, 53, 54, 55, 56, 57] = 0xcbf43926#32 := by decide +kernel

/-! ### Products -/
def timesL : Nat → W → W → W → W
  | 0, _, _, out => out
  | k + 1, a, b, out => timesL k a (half b) (if a.getLsbD k then out ^^^ b else out)
def times (a b : W) : W := timesL 32 a b 0#32

theorem timesL_xor_a (k : Nat) : ∀ (a a' b o o' : W), timesL k (a ^^^ a') b (o ^^^ o') = timesL k a b o ^^^ timesL k a' b o' := by
  induction k with
  | zero => intros; rfl
  | succ k ih =>
    intro a a' b o o'
    simp only [timesL, BitVec.getLsbD_xor]
    rw [← ih]
    congr 1
    cases a.getLsbD k <;> cases a'.getLsbD k <;> simp
    · ac_rfl
    · ac_rfl
    · rw [show o ^^^ b ^^^ (o' ^^^ b) = o ^^^ o' ^^^ (b ^^^ b) by ac_rfl, BitVec.xor_self, BitVec.xor_zero]
theorem timesL_xor_b (k : Nat) : ∀ (a b b' o o' : W), timesL k a (b ^^^ b') (o ^^^ o') = timesL k a b o ^^^ timesL k a b' o' := by
  induction k with
  | zero => intros; rfl
  | succ k ih =>
    intro a b b' o o'
    simp only [timesL]
    rw [half_xor, ← ih]
    congr 1
    cases a.getLsbD k <;> simp
    ac_rfl
theorem times_xor_a (a a' b : W) : times (a ^^^ a') b = times a b ^^^ times a' b := by
  have := timesL_xor_a 32 a a' b 0#32 0#32
  simpa [times] using this
theorem times_xor_b (a b b' : W) : times a (b ^^^ b') = times a b ^^^ times a b' := by
  have := timesL_xor_b 32 a b b' 0#32 0#32
  simpa [times] using this

/-- A map that respects xor. -/
def Lin (f : W → W) : Prop := ∀ a b, f (a ^^^ b) = f a ^^^ f b
theorem Lin.zero {f : W → W} (h : Lin f) : f 0#32 = 0#32 := by
  have := h 0#32 0#32
  rw [BitVec.xor_self] at this
  rw [this, BitVec.xor_self]
/-- A word's bits below n. -/
def below (n : Nat) (x : W) : W := match n with
  | 0 => 0#32
  | n + 1 => below n x ^^^ (if x.getLsbD n then 1#32 <<< n else 0#32)
theorem getLsbD_below (n : Nat) (x : W) (i : Nat) (hi : i < 32) (hn : n ≤ 32) : (below n x).getLsbD i = (decide (i < n) && x.getLsbD i) := by
  induction n with
  | zero => simp [below]
  | succ n ih =>
    simp only [below, BitVec.getLsbD_xor, ih (by omega)]
    have h1 : (1#32 <<< n).getLsbD i = decide (i = n) := by
      simp only [BitVec.getLsbD_shiftLeft, hi, decide_true, Bool.true_and]
      by_cases h : i < n
      · simp [h]; omega
      · by_cases h2 : i = n
        · subst h2; simp
        · simp [h, h2]; omega
    by_cases hx : x.getLsbD n = true
    · simp only [hx, if_true, h1]
      by_cases h : i < n
      · simp [h, show i < n + 1 by omega, show i ≠ n by omega]
      · by_cases h2 : i = n
        · subst h2; simp [hx]
        · simp [h, h2, show ¬ i < n + 1 by omega]
    · have hx' : x.getLsbD n = false := by simpa using hx
      simp only [hx', Bool.false_eq_true, if_false]
      by_cases h : i < n
      · simp [h, show i < n + 1 by omega]
      · by_cases h2 : i = n
        · subst h2; simp [hx']
        · simp [h, show ¬ i < n + 1 by omega]
theorem below_32 (x : W) : below 32 x = x := by
  apply BitVec.eq_of_getLsbD_eq
  intro i hi
  rw [getLsbD_below 32 x i hi (Nat.le_refl _)]; simp [hi]
theorem Lin.ext {f g : W → W} (hf : Lin f) (hg : Lin g) (h : ∀ i : Fin 32, f (1#32 <<< i.val) = g (1#32 <<< i.val)) (x : W) : f x = g x := by
  have hb : ∀ n, n ≤ 32 → f (below n x) = g (below n x) := by
    intro n
    induction n with
    | zero => intro _; simp [below, hf.zero, hg.zero]
    | succ n ih =>
      intro hn
      simp only [below]
      rw [hf, hg, ih (by omega)]
      congr 1
      split
      · exact h ⟨n, by omega⟩
      · rw [hf.zero, hg.zero]
  have := hb 32 (Nat.le_refl _)
  rwa [below_32] at this

theorem lin_half : Lin half := half_xor
theorem lin_hpow (n : Nat) : Lin (hpow n) := hpow_xor n
theorem lin_times_a (b : W) : Lin (fun a => times a b) := fun a a' => times_xor_a a a' b
theorem lin_times_b (a : W) : Lin (times a) := times_xor_b a

theorem times_half_basis : ∀ i j : Fin 32, times (half (1#32 <<< i.val)) (1#32 <<< j.val) = half (times (1#32 <<< i.val) (1#32 <<< j.val)) := by decide +kernel
theorem times_half (a b : W) : times (half a) b = half (times a b) := by
  refine Lin.ext (f := fun a => times (half a) b) (g := fun a => half (times a b)) ?_ ?_ ?_ a
  · intro x y; dsimp only; rw [half_xor, times_xor_a]
  · intro x y; dsimp only; rw [times_xor_a, half_xor]
  · intro i
    refine Lin.ext (f := fun b => times (half (1#32 <<< i.val)) b) (g := fun b => half (times (1#32 <<< i.val) b)) ?_ ?_ ?_ b
    · intro x y; exact times_xor_b _ _ _
    · intro x y; dsimp only; rw [times_xor_b, half_xor]
    · intro j; exact times_half_basis i j
theorem timesL_half (k : Nat) : ∀ (a b o : W), timesL k a (half b) (half o) = half (timesL k a b o) := by
  induction k with
  | zero => intros; rfl
  | succ k ih =>
    intro a b o
    simp only [timesL]
    rw [← ih]
    congr 1
    cases a.getLsbD k <;> simp [half_xor]
/-- The product of a product. -/
theorem times_timesL (k : Nat) : ∀ (a p o q : W), times (timesL k a p o) q = timesL k a (times p q) (times o q) := by
  induction k with
  | zero => intros; rfl
  | succ k ih =>
    intro a p o q
    simp only [timesL]
    rw [ih, times_half]
    congr 1
    cases a.getLsbD k <;> simp [times_xor_a]
theorem times_assoc (a p q : W) : times (times a p) q = times a (times p q) := by
  have := times_timesL 32 a p 0#32 q
  rw [(lin_times_a q).zero] at this
  exact this
theorem times_x8_basis : ∀ i : Fin 32, times (1#32 <<< i.val) (1#32 <<< 23) = hpow 8 (1#32 <<< i.val) := by decide +kernel
theorem times_x8 (a : W) : times a (1#32 <<< 23) = hpow 8 a := Lin.ext (lin_times_a _) (lin_hpow 8) times_x8_basis a

/-- The program's way to join. -/
def joinL : Nat → W → W → Nat → W
  | 0, a, _, _ => a
  | f + 1, a, p, n => if n = 0 then a else joinL f (if n % 2 = 1 then times a p else a) (times p p) (n / 2)

/-- A map by its columns. -/
def apply (m : Nat → W) : Nat → W → W → W
  | 0, _, out => out
  | k + 1, v, out => apply m k v out ^^^ (if v.getLsbD k then m k else 0#32)
theorem apply_lin (f : W → W) (hf : Lin f) (m : Nat → W) (hm : ∀ i, i < 32 → m i = f (1#32 <<< i)) (v : W) : apply m 32 v 0#32 = f v := by
  have h : ∀ k, k ≤ 32 → apply m k v 0#32 = f (below k v) := by
    intro k
    induction k with
    | zero => intro _; simp [apply, below, hf.zero]
    | succ k ih =>
      intro hk
      simp only [apply, below]
      rw [ih (by omega), hf]
      congr 1
      split
      · exact hm k (by omega)
      · exact hf.zero.symm
  have := h 32 (Nat.le_refl _)
  rwa [below_32] at this
end Go.Proofs.Ytfeddgeihpfjfab.Crc
