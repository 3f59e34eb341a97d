/- How many bits of a word are set, as math/bits counts them: the words of the method, byte by byte. -/
import Derived.Test.YtiolfnnkkflaiaaDoorSetMath
namespace Go.Proofs.YtiolfnnkkflaiaaDoor

theorem and_split (x c m : Nat) (hc : c < 256) : x &&& (c + 256 * m) = (x % 256 &&& c) + 256 * (x / 256 &&& m) := by
  have h1 : (x &&& (c + 256 * m)) % 256 = (x % 256 &&& c) := by
    have := Nat.and_mod_two_pow (a := x) (b := c + 256 * m) (n := 8)
    rw [show (2 : Nat) ^ 8 = 256 by decide] at this
    rw [this, show (c + 256 * m) % 256 = c by omega]
  have h2 : (x &&& (c + 256 * m)) / 256 = (x / 256 &&& m) := by
    have := Nat.and_div_two_pow (a := x) (b := c + 256 * m) (n := 8)
    rw [show (2 : Nat) ^ 8 = 256 by decide] at this
    rw [this, show (c + 256 * m) / 256 = m by omega]
  omega
theorem and_low (y c n : Nat) (hc : c < 2 ^ n) : y &&& c = (y % 2 ^ n &&& c) := by
  apply Nat.eq_of_testBit_eq
  intro i
  rw [Nat.testBit_and, Nat.testBit_and, Nat.testBit_mod_two_pow]
  by_cases h : i < n
  · simp [h]
  · have : c.testBit i = false := Nat.testBit_lt_two_pow (Nat.lt_of_lt_of_le hc (Nat.pow_le_pow_right (by omega) (by omega)))
    simp [this]

/-- The first three steps, over any masks. -/
def oc1 (m0 x : Nat) : Nat := (x / 2 &&& m0) + (x &&& m0)
def oc2 (m1 x : Nat) : Nat := (x / 4 &&& m1) + (x &&& m1)
def oc3 (m2 x : Nat) : Nat := (x / 16 + x) &&& m2
def byteCount (b : Nat) : Nat := oc3 15 (oc2 51 (oc1 85 b))

theorem oc1_split (m x : Nat) : oc1 (85 + 256 * m) x = oc1 85 (x % 256) + 256 * oc1 m (x / 256) := by
  unfold oc1
  rw [and_split _ _ _ (by omega), and_split x _ _ (by omega), and_low (x / 2 % 256) 85 7 (by decide), and_low (x % 256 / 2) 85 7 (by decide), show x / 2 % 256 % 2 ^ 7 = x % 256 / 2 % 2 ^ 7 by omega, show x / 2 / 256 = x / 256 / 2 by omega]
  omega
theorem oc2_split (m a b : Nat) (ha : a < 256) : oc2 (51 + 256 * m) (a + 256 * b) = oc2 51 a + 256 * oc2 m b := by
  unfold oc2
  rw [and_split _ _ _ (by omega), and_split (a + 256 * b) _ _ (by omega), and_low ((a + 256 * b) / 4 % 256) 51 6 (by decide), and_low (a / 4) 51 6 (by decide), show (a + 256 * b) / 4 % 256 % 2 ^ 6 = a / 4 % 2 ^ 6 by omega, show (a + 256 * b) / 4 / 256 = b / 4 by omega, show (a + 256 * b) % 256 = a by omega, show (a + 256 * b) / 256 = b by omega]
  omega
theorem oc3_split (m a b : Nat) (ha : a < 128) (hb : b % 16 ≤ 6) : oc3 (15 + 256 * m) (a + 256 * b) = oc3 15 a + 256 * oc3 m b := by
  unfold oc3
  rw [and_split _ _ _ (by omega), and_low (((a + 256 * b) / 16 + (a + 256 * b)) % 256) 15 4 (by decide), and_low (a / 16 + a) 15 4 (by decide), show ((a + 256 * b) / 16 + (a + 256 * b)) % 256 % 2 ^ 4 = (a / 16 + a) % 2 ^ 4 by omega, show ((a + 256 * b) / 16 + (a + 256 * b)) / 256 = b / 16 + b by omega]
theorem oc1_byte (b : Nat) : oc1 85 b < 256 := by
  have h1 : b / 2 &&& 85 ≤ 85 := Nat.and_le_right
  have h2 : b &&& 85 ≤ 85 := Nat.and_le_right
  unfold oc1; omega
theorem oc2_byte (b : Nat) : oc2 51 b < 128 := by
  have h1 : b / 4 &&& 51 ≤ 51 := Nat.and_le_right
  have h2 : b &&& 51 ≤ 51 := Nat.and_le_right
  unfold oc2; omega
theorem oc2_low (m x : Nat) (hm : m % 16 ≤ 3) : oc2 m x % 16 ≤ 6 := by
  have h (y : Nat) : (y &&& m) % 16 ≤ 3 := by
    have := Nat.and_mod_two_pow (a := y) (b := m) (n := 4)
    rw [show (2 : Nat) ^ 4 = 16 by decide] at this
    rw [this]
    exact Nat.le_trans Nat.and_le_right hm
  have h1 := h (x / 4)
  have h2 := h x
  unfold oc2; omega

/-- The masks of so many bytes. -/
def rep (c : Nat) : Nat → Nat
  | 0 => 0
  | k + 1 => c + 256 * rep c k
theorem rep_low (k : Nat) : rep 51 k % 16 ≤ 3 := by
  cases k <;> simp only [rep] <;> omega
/-- The sum of the bytes' counts, each in its byte; their sum. -/
def spread : Nat → Nat → Nat
  | 0, _ => 0
  | k + 1, x => byteCount (x % 256) + 256 * spread k (x / 256)
def pops : Nat → Nat → Nat
  | 0, _ => 0
  | k + 1, x => byteCount (x % 256) + pops k (x / 256)
theorem oc_spread : ∀ (k x : Nat), oc3 (rep 15 k) (oc2 (rep 51 k) (oc1 (rep 85 k) x)) = spread k x
  | 0, x => by simp [rep, spread, oc3]
  | k + 1, x => by
    simp only [rep, spread]
    rw [oc1_split, oc2_split _ _ _ (oc1_byte _), oc3_split _ _ _ (oc2_byte _) (oc2_low _ _ (rep_low k)), oc_spread k]
    rfl
theorem byteCount_le (b : Nat) : byteCount b ≤ 8 ∨ 256 ≤ b := by
  have all : ∀ b : Fin 256, byteCount b.val ≤ 8 := by decide +kernel
  by_cases h : b < 256
  · exact .inl (all ⟨b, h⟩)
  · exact .inr (by omega)
theorem byteCount_eq (b : Nat) (h : b < 256) : byteCount b = ((List.range 8).filter b.testBit).length := by
  have all : ∀ b : Fin 256, byteCount b.val = ((List.range 8).filter b.val.testBit).length := by decide +kernel
  exact all ⟨b, h⟩
theorem pops_eq : ∀ (k x : Nat), pops k x = ((List.range (8 * k)).filter x.testBit).length
  | 0, x => by simp [pops]
  | k + 1, x => by
    rw [pops, pops_eq k, byteCount_eq _ (by omega), show 8 * (k + 1) = 8 + 8 * k by omega, List.range_add, List.filter_append, List.length_append, List.filter_map, List.length_map]
    congr 2
    · apply List.filter_congr
      intro i hi
      simp only [List.mem_range] at hi
      rw [show (256 : Nat) = 2 ^ 8 by decide, Nat.testBit_mod_two_pow]
      simp [hi]
    · apply List.filter_congr
      intro i hi
      rw [show (256 : Nat) = 2 ^ 8 by decide, Nat.testBit_div_two_pow]
      simp [Nat.add_comm]

/-- What the method reckons. -/
def oc6 (x : Nat) : Nat :=
  let y := oc3 1085102592571150095 (oc2 3689348814741910323 (oc1 6148914691236517205 x))
  let y := y + y / 256
  let y := y + y / 65536
  let y := y + y / 4294967296
  y % 128
theorem oc6_eq (x : Nat) : oc6 x = (lo x).length := by
  have h1 : rep 85 8 = 6148914691236517205 := by decide
  have h2 : rep 51 8 = 3689348814741910323 := by decide
  have h3 : rep 15 8 = 1085102592571150095 := by decide
  have h4 := pops_eq 8 x
  have h5 := oc_spread 8 x
  rw [h1, h2, h3] at h5
  unfold oc6 lo
  rw [h5, ← h4]
  clear h1 h2 h3 h4 h5
  simp only [spread, pops]
  have bc (b : Nat) (h : b < 256) : byteCount b ≤ 8 := by
    rcases byteCount_le b with h' | h'
    · exact h'
    · omega
  have p0 := bc (x % 256) (by omega)
  have p1 := bc (x / 256 % 256) (by omega)
  have p2 := bc (x / 256 / 256 % 256) (by omega)
  have p3 := bc (x / 256 / 256 / 256 % 256) (by omega)
  have p4 := bc (x / 256 / 256 / 256 / 256 % 256) (by omega)
  have p5 := bc (x / 256 / 256 / 256 / 256 / 256 % 256) (by omega)
  have p6 := bc (x / 256 / 256 / 256 / 256 / 256 / 256 % 256) (by omega)
  have p7 := bc (x / 256 / 256 / 256 / 256 / 256 / 256 / 256 % 256) (by omega)
  generalize byteCount (x % 256) = c0 at p0 ⊢
  generalize byteCount (x / 256 % 256) = c1 at p1 ⊢
  generalize byteCount (x / 256 / 256 % 256) = c2 at p2 ⊢
  generalize byteCount (x / 256 / 256 / 256 % 256) = c3 at p3 ⊢
  generalize byteCount (x / 256 / 256 / 256 / 256 % 256) = c4 at p4 ⊢
  generalize byteCount (x / 256 / 256 / 256 / 256 / 256 % 256) = c5 at p5 ⊢
  generalize byteCount (x / 256 / 256 / 256 / 256 / 256 / 256 % 256) = c6 at p6 ⊢
  generalize byteCount (x / 256 / 256 / 256 / 256 / 256 / 256 / 256 % 256) = c7 at p7 ⊢
  have e0 : c0 + 256 * (c1 + 256 * (c2 + 256 * (c3 + 256 * (c4 + 256 * (c5 + 256 * (c6 + 256 * (c7 + 256 * 0))))))) = c0 + 256 * c1 + 65536 * c2 + 16777216 * c3 + 4294967296 * c4 + 1099511627776 * c5 + 281474976710656 * c6 + 72057594037927936 * c7 := by omega
  rw [e0]
  generalize hy : c0 + 256 * c1 + 65536 * c2 + 16777216 * c3 + 4294967296 * c4 + 1099511627776 * c5 + 281474976710656 * c6 + 72057594037927936 * c7 = y
  have e1 : y / 256 = c1 + 256 * c2 + 65536 * c3 + 16777216 * c4 + 4294967296 * c5 + 1099511627776 * c6 + 281474976710656 * c7 := by omega
  rw [e1]
  generalize hz : y + (c1 + 256 * c2 + 65536 * c3 + 16777216 * c4 + 4294967296 * c5 + 1099511627776 * c6 + 281474976710656 * c7) = z
  have hz' : z = (c0 + c1) + 256 * (c1 + c2) + 65536 * (c2 + c3) + 16777216 * (c3 + c4) + 4294967296 * (c4 + c5) + 1099511627776 * (c5 + c6) + 281474976710656 * (c6 + c7) + 72057594037927936 * c7 := by omega
  have e2 : z / 65536 = (c2 + c3) + 256 * (c3 + c4) + 65536 * (c4 + c5) + 16777216 * (c5 + c6) + 4294967296 * (c6 + c7) + 1099511627776 * c7 := by omega
  rw [e2]
  clear hy e0 e1 hz
  generalize hv : z + ((c2 + c3) + 256 * (c3 + c4) + 65536 * (c4 + c5) + 16777216 * (c5 + c6) + 4294967296 * (c6 + c7) + 1099511627776 * c7) = v
  have hv' : v = (c0 + c1 + c2 + c3) + 256 * (c1 + c2 + c3 + c4) + 65536 * (c2 + c3 + c4 + c5) + 16777216 * (c3 + c4 + c5 + c6) + 4294967296 * (c4 + c5 + c6 + c7) + 1099511627776 * (c5 + c6 + c7) + 281474976710656 * (c6 + c7) + 72057594037927936 * c7 := by omega
  have e3 : v / 4294967296 = (c4 + c5 + c6 + c7) + 256 * (c5 + c6 + c7) + 65536 * (c6 + c7) + 16777216 * c7 := by omega
  rw [e3]
  clear hz' e2 hv
  omega

/-! ### one that is not in another one -/
def andn (a c : Nat) : Nat := a &&& (18446744073709551615 - c)
theorem andn_testBit (a c i : Nat) (ha : a < 18446744073709551616) (hc : c < 18446744073709551616) : (andn a c).testBit i = (a.testBit i && !c.testBit i) := by
  unfold andn
  rw [Nat.testBit_and]
  have h := Nat.testBit_two_pow_sub_succ (n := 64) (x := c) (by simpa using hc) i
  rw [show (2 : Nat) ^ 64 - (c + 1) = 18446744073709551615 - c by omega] at h
  rw [h]
  by_cases hi : i < 64
  · simp [hi]
  · have : a.testBit i = false := Nat.testBit_lt_two_pow (Nat.lt_of_lt_of_le ha (Nat.pow_le_pow_right (n := 2) (i := 64) (by omega) (by omega)))
    simp [this]
theorem andn_le (a c : Nat) : andn a c ≤ a := Nat.and_le_left
theorem andn_lt (a c : Nat) (ha : a < 18446744073709551616) : andn a c < 18446744073709551616 := Nat.lt_of_le_of_lt (andn_le a c) ha
theorem or_lt64 (a c : Nat) (ha : a < 18446744073709551616) (hc : c < 18446744073709551616) : a ||| c < 18446744073709551616 := Nat.or_lt_two_pow (n := 64) ha hc

theorem ofBits_word (f : Nat → Bool) (x : Nat) (hx : x < 18446744073709551616) (h : ∀ i, i < 64 → f i = x.testBit i) : ofBits f 64 = x := by
  rw [← ofBits_self x hx]
  exact ofBits_congr h
theorem two_pow_lt64 (k : Nat) (hk : k < 64) : (2 : Nat) ^ k < 18446744073709551616 := Nat.pow_lt_pow_right (a := 2) (m := k) (n := 64) (by omega) hk

/-- One less. -/
def sdel (a b i : Nat) : Nat × Nat := if i < 64 then (andn a (2 ^ i), b) else (a, andn b (2 ^ (i - 64)))
theorem sdel_lt (a b i : Nat) (ha : a < 18446744073709551616) (hb : b < 18446744073709551616) : (sdel a b i).1 < 18446744073709551616 ∧ (sdel a b i).2 < 18446744073709551616 := by
  unfold sdel
  split
  · exact ⟨andn_lt _ _ ha, hb⟩
  · exact ⟨ha, andn_lt _ _ hb⟩
theorem has_sdel (a b i j : Nat) (ha : a < 18446744073709551616) (hb : b < 18446744073709551616) (hi : i < 128) : has (sdel a b i).1 (sdel a b i).2 j = (has a b j && j != i) := by
  unfold sdel
  split
  · rename_i h
    unfold has
    split
    · rw [andn_testBit _ _ _ ha (two_pow_lt64 i h), Nat.testBit_two_pow]
      by_cases e : i = j
      · subst e; simp
      · have e2 : j ≠ i := fun h => e h.symm
        simp [e, e2]
    · have : j ≠ i := by omega
      simp [this]
  · rename_i h
    unfold has
    split
    · have : j ≠ i := by omega
      simp [this]
    · rw [andn_testBit _ _ _ hb (two_pow_lt64 (i - 64) (by omega)), Nat.testBit_two_pow]
      by_cases e : j = i
      · subst e; simp
      · have e2 : ¬ i - 64 = j - 64 := by omega
        simp [e, e2]

/-- What a list of 128 tells, where it tells what a set has. -/
theorem ofBits_has (f : Nat → Bool) (a b : Nat) (ha : a < 18446744073709551616) (hb : b < 18446744073709551616) (h : ∀ k, k < 128 → f k = has a b k) : ofBits f 64 = a ∧ ofBits (fun j => f (64 + j)) 64 = b := by
  constructor
  · refine ofBits_word _ _ ha fun i hi => ?_
    rw [h i (by omega)]; simp [has, hi]
  · refine ofBits_word _ _ hb fun i hi => ?_
    show f (64 + i) = _
    have n64 : ¬ (64 + i < 64) := by omega
    rw [h (64 + i) (by omega)]; simp [has, n64]
theorem has_or (a b c d k : Nat) : has (a ||| c) (b ||| d) k = (has a b k || has c d k) := by
  unfold has; split <;> rw [Nat.testBit_or]
theorem has_andn (a b c d k : Nat) (ha : a < 18446744073709551616) (hb : b < 18446744073709551616) (hc : c < 18446744073709551616) (hd : d < 18446744073709551616) : has (andn a c) (andn b d) k = (has a b k && !has c d k) := by
  unfold has; split
  · rw [andn_testBit _ _ _ ha hc]
  · rw [andn_testBit _ _ _ hb hd]
/-- So many are there together. -/
theorem filter_len_or (l : List Nat) (p q : Nat → Bool) : (l.filter fun i => p i || q i).length = (l.filter q).length + (l.filter fun i => p i && !q i).length := by
  induction l with
  | nil => rfl
  | cons x l ih =>
    simp only [List.filter_cons]
    cases p x <;> cases q x <;> simp [ih] <;> omega
theorem lo_or (a c : Nat) (ha : a < 18446744073709551616) (hc : c < 18446744073709551616) : (lo (a ||| c)).length = (lo c).length + (lo (andn a c)).length := by
  unfold lo
  rw [show (a ||| c).testBit = (fun i => a.testBit i || c.testBit i) by funext i; rw [Nat.testBit_or], filter_len_or]
  congr 3
  funext i
  rw [andn_testBit _ _ _ ha hc]
theorem lst_length (a b : Nat) : (lst a b).length = (lo a).length + (lo b).length := by
  rw [lst_eq, List.length_append, List.length_map]
theorem lst_or (a b c d : Nat) (ha : a < 18446744073709551616) (hb : b < 18446744073709551616) (hc : c < 18446744073709551616) (hd : d < 18446744073709551616) : (lst (a ||| c) (b ||| d)).length = (lst c d).length + (lst (andn a c) (andn b d)).length := by
  rw [lst_length, lst_length, lst_length, lo_or a c ha hc, lo_or b d hb hd]; omega
end Go.Proofs.YtiolfnnkkflaiaaDoor
