/- Whole numbers as floats: sums, products, opposites and comparisons are exact up to 2^53. -/
import Derived.Laws.FloatArith
import Derived.Laws.ComplexArith
namespace Go.Proofs.YtlfclpdcingpnaaDoor
open Ieee

theorem log2_mul_pow (m : Nat) (hm : m ≠ 0) : ∀ k : Nat, (m * 2 ^ k).log2 = m.log2 + k
  | 0 => by simp
  | k + 1 => by
    have h : m * 2 ^ (k + 1) = 2 * (m * 2 ^ k) := by rw [Nat.pow_succ]; simp only [Nat.mul_comm, Nat.mul_left_comm]
    rw [h, Nat.log2_two_mul (by have := Nat.two_pow_pos k; exact Nat.mul_ne_zero hm (by omega)), log2_mul_pow m hm k]; omega

theorem cut_exact (s : Bool) (q d : Nat) (hq : q ≠ 0) : Toward.even.cut s (q * 2 ^ d) d = q := by
  unfold Toward.cut
  have h1 : min d ((q * 2 ^ d).log2 + 2) = d := by rw [log2_mul_pow q hq]; omega
  have hp : 0 < 2 ^ d := Nat.two_pow_pos d
  rw [h1]
  simp only [Nat.shiftLeft_eq, Nat.one_mul, Nat.mul_mod_left, Nat.mul_div_cancel _ hp]
  have h2 : decide (2 ^ d < 2 * 0) = false := by simp
  have h3 : (2 ^ d == 2 * 0) = false := by rw [beq_eq_false_iff_ne]; omega
  rw [h2, h3]; simp

/-- The word of a whole number. -/
def wrote (s : Bool) (m : Nat) : Nat := double.nearest s m 0

theorem least_double : double.leastPlace = -1074 := by decide
theorem nearest_shift (s : Bool) (m k : Nat) (hm : m < 9007199254740992) : double.nearest s (m <<< k) (-(k : Int)) = wrote s m := by
  unfold wrote
  by_cases h0 : m = 0
  · subst h0; simp [Format.nearest]
  have hL : m.log2 ≤ 52 := by
    have := (Nat.log2_lt (n := m) (k := 53) h0).2 (by simpa using hm)
    omega
  have hs0 : m <<< k ≠ 0 := by
    rw [Nat.shiftLeft_eq]; exact Nat.mul_ne_zero h0 (by have := Nat.two_pow_pos k; omega)
  unfold Format.nearest
  rw [if_neg hs0, if_neg h0]
  have hl2 : (m <<< k).log2 = m.log2 + k := by rw [Nat.shiftLeft_eq]; exact log2_mul_pow m h0 k
  rw [hl2]
  have hf : (double.fractionBits : Int) = 52 := rfl
  rw [hf, least_double]
  generalize hLL : m.log2 = L at hL ⊢
  have e1 : max (-(k : Int) + ((L + k : Nat) : Int) - 52) (-1074) = (L : Int) - 52 := by omega
  have e2 : max (0 + (L : Int) - 52) (-1074) = (L : Int) - 52 := by omega
  simp only [e1, e2]
  have hk : Toward.even.cut s (m <<< k <<< (-(k : Int) - ((L : Int) - 52)).toNat) ((L : Int) - 52 - -(k : Int)).toNat = m <<< (52 - L) := by
    have hq : m <<< (52 - L) ≠ 0 := by rw [Nat.shiftLeft_eq]; exact Nat.mul_ne_zero h0 (by have := Nat.two_pow_pos (52 - L); omega)
    by_cases hkd : k ≤ 52 - L
    · have a1 : (-(k : Int) - ((L : Int) - 52)).toNat = 52 - L - k := by omega
      have a2 : ((L : Int) - 52 - -(k : Int)).toNat = 0 := by omega
      rw [a1, a2, ← Nat.shiftLeft_add, show k + (52 - L - k) = 52 - L by omega]
      have := cut_exact s (m <<< (52 - L)) 0 hq
      simpa using this
    · have a1 : (-(k : Int) - ((L : Int) - 52)).toNat = 0 := by omega
      have a2 : ((L : Int) - 52 - -(k : Int)).toNat = k - (52 - L) := by omega
      rw [a1, a2, Nat.shiftLeft_zero]
      have := cut_exact s (m <<< (52 - L)) (k - (52 - L)) hq
      rw [Nat.shiftLeft_eq m (52 - L), Nat.mul_assoc, ← Nat.pow_add, show 52 - L + (k - (52 - L)) = k by omega, ← Nat.shiftLeft_eq, ← Nat.shiftLeft_eq] at this
      exact this
  have hk0 : Toward.even.cut s (m <<< (0 - ((L : Int) - 52)).toNat) ((L : Int) - 52 - 0).toNat = m <<< (52 - L) := by
    have hq : m <<< (52 - L) ≠ 0 := by rw [Nat.shiftLeft_eq]; exact Nat.mul_ne_zero h0 (by have := Nat.two_pow_pos (52 - L); omega)
    have a1 : (0 - ((L : Int) - 52)).toNat = 52 - L := by omega
    have a2 : ((L : Int) - 52 - 0).toNat = 0 := by omega
    rw [a1, a2]
    have := cut_exact s (m <<< (52 - L)) 0 hq
    simpa using this
  rw [hk, hk0]

theorem wrote_word (s : Bool) (m : Nat) (h0 : m ≠ 0) (hm : m < 9007199254740992) : ∃ L t, L ≤ 52 ∧ t < 4503599627370496 ∧ m <<< (52 - L) = 4503599627370496 + t ∧ wrote s m = double.word s ((L + 1023) * 4503599627370496 + t) := by
  have hL : m.log2 ≤ 52 := by
    have := (Nat.log2_lt (n := m) (k := 53) h0).2 (by simpa using hm)
    omega
  have hlo : 2 ^ m.log2 ≤ m := Nat.log2_self_le h0
  have hhi : m < 2 ^ (m.log2 + 1) := Nat.lt_log2_self
  generalize hLL : m.log2 = L at hL hlo hhi
  have hb1 : 4503599627370496 ≤ m <<< (52 - L) := by
    rw [Nat.shiftLeft_eq]
    have := Nat.mul_le_mul_right (2 ^ (52 - L)) hlo
    rw [← Nat.pow_add, show L + (52 - L) = 52 by omega] at this
    simpa using this
  have hb2 : m <<< (52 - L) < 9007199254740992 := by
    rw [Nat.shiftLeft_eq]
    have := Nat.mul_lt_mul_of_pos_right hhi (Nat.two_pow_pos (52 - L))
    rw [← Nat.pow_add, show L + 1 + (52 - L) = 53 by omega] at this
    simpa using this
  refine ⟨L, m <<< (52 - L) - 4503599627370496, hL, by omega, by omega, ?_⟩
  unfold wrote Format.nearest
  rw [if_neg h0]
  have hf : (double.fractionBits : Int) = 52 := rfl
  rw [hf, least_double, hLL]
  have e2 : max (0 + (L : Int) - 52) (-1074) = (L : Int) - 52 := by omega
  simp only [e2]
  have hk0 : Toward.even.cut s (m <<< (0 - ((L : Int) - 52)).toNat) ((L : Int) - 52 - 0).toNat = m <<< (52 - L) := by
    have hq : m <<< (52 - L) ≠ 0 := by omega
    have a1 : (0 - ((L : Int) - 52)).toNat = 52 - L := by omega
    have a2 : ((L : Int) - 52 - 0).toNat = 0 := by omega
    rw [a1, a2]
    have := cut_exact s (m <<< (52 - L)) 0 hq
    simpa using this
  rw [hk0]
  have a3 : ((L : Int) - 52 - -1074).toNat = L + 1022 := by omega
  have hbin : double.binade = 4503599627370496 := by decide
  have hinf : double.infRung = 9218868437227405312 := by decide
  rw [a3, hbin, hinf]
  have : (L + 1022) * 4503599627370496 + m <<< (52 - L) ≤ 9218868437227405312 := by omega
  rw [Nat.min_eq_left this]
  have e5 : (L + 1022) * 4503599627370496 + m <<< (52 - L) = (L + 1023) * 4503599627370496 + (m <<< (52 - L) - 4503599627370496) := by omega
  rw [e5]

theorem read_word (s : Bool) (r : Nat) (hr : r < 9223372036854775808) : (double.word s r / double.signWeight % 2 == 1) = s ∧ double.word s r % double.signWeight = r := by
  have hw : double.signWeight = 9223372036854775808 := by decide
  unfold Format.word
  rw [hw]
  cases s
  · simp; omega
  · simp; omega

theorem read_wrote (s : Bool) (m : Nat) (hm : m < 9007199254740992) : ∃ k : Nat, double.read (wrote s m) = .number s (m <<< k) (-(k : Int)) := by
  have hbin : double.binade = 4503599627370496 := by decide
  have hinf : double.infRung = 9218868437227405312 := by decide
  by_cases h0 : m = 0
  · subst h0
    refine ⟨1074, ?_⟩
    have e : wrote s 0 = double.word s 0 := by simp [wrote, Format.nearest]
    obtain ⟨h1, h2⟩ := read_word s 0 (by omega)
    unfold Format.read
    rw [e]
    simp only [h1, h2, hbin, least_double]
    simp
  · obtain ⟨L, t, hL, ht, hsh, hw⟩ := wrote_word s m h0 hm
    refine ⟨52 - L, ?_⟩
    rw [hw]
    obtain ⟨h1, h2⟩ := read_word s ((L + 1023) * 4503599627370496 + t) (by omega)
    unfold Format.read
    simp only [h1, h2, hbin, hinf, least_double]
    rw [if_neg (by omega), if_pos (by omega)]
    have hd : ((L + 1023) * 4503599627370496 + t) / 4503599627370496 = L + 1023 := by omega
    have hmo : ((L + 1023) * 4503599627370496 + t) % 4503599627370496 = t := by omega
    have hpl : (-1074 : Int) + ((L + 1023 - 1 : Nat) : Int) = -((52 - L : Nat) : Int) := by omega
    rw [hd, hmo, hsh, hpl]

/-- The number of a sign and a size. -/
def sv (s : Bool) (m : Nat) : Int := if s then -(m : Int) else m
theorem sv_abs (s : Bool) (m : Nat) : (sv s m).natAbs = m := by cases s <;> simp [sv]
/-- The word b is the whole number v. -/
def IsI (b : Nat) (v : Int) : Prop := ∃ s m, b = wrote s m ∧ m < 9007199254740992 ∧ v = sv s m

theorem signed_scale (s : Bool) (m k K : Nat) (h : k ≤ K) : signed s (m <<< k) (K - k) = sv s m * 2 ^ K := by
  unfold signed sv
  rw [← Nat.shiftLeft_add, show k + (K - k) = K by omega, Nat.shiftLeft_eq]
  cases s <;> simp [Int.neg_mul]

theorem sum_exact (s t : Bool) (m n k l : Nat) : ∃ sg K, Datum.sum (.number s (m <<< k) (-(k : Int))) (.number t (n <<< l) (-(l : Int))) = some (.number sg ((sv s m + sv t n).natAbs <<< K) (-(K : Int))) ∧ sv sg (sv s m + sv t n).natAbs = sv s m + sv t n := by
  have hbase : min (-(k : Int)) (-(l : Int)) = -((max k l : Nat) : Int) := by omega
  have h1 : (-(k : Int) - -((max k l : Nat) : Int)).toNat = max k l - k := by omega
  have h2 : (-(l : Int) - -((max k l : Nat) : Int)).toNat = max k l - l := by omega
  refine ⟨if sv s m + sv t n = 0 then s && t else sv s m + sv t n < 0, max k l, ?_, ?_⟩
  · unfold Datum.sum
    simp only [hbase, h1, h2, signed_scale s m k (max k l) (by omega), signed_scale t n l (max k l) (by omega), ← Int.add_mul]
    generalize sv s m + sv t n = v
    have hp : (0 : Int) < 2 ^ (max k l) := Int.pow_pos (by omega)
    have hz : (v * 2 ^ (max k l) = 0) = (v = 0) := by
      rw [eq_iff_iff, Int.mul_eq_zero]; constructor
      · rintro (h | h); exact h; omega
      · exact .inl
    have hn : (v * 2 ^ (max k l) < 0) = (v < 0) := by
      rw [eq_iff_iff]; constructor
      · intro h; exact Int.not_le.1 fun hv => by have := Int.mul_nonneg hv (Int.le_of_lt hp); omega
      · intro h; exact Int.mul_neg_of_neg_of_pos h hp
    simp only [hz, hn]
    rw [Int.natAbs_mul, Int.natAbs_pow, Nat.shiftLeft_eq]
    by_cases hv : v = 0
    · simp [hv]
    · simp [hv]
  · generalize sv s m + sv t n = v
    unfold sv
    by_cases hv : v = 0
    · subst hv; simp
    · simp only [hv, if_false]
      by_cases hn : v < 0
      · simp [hn]; omega
      · simp [hn]; omega

theorem IsI.add {x y : Nat} {u v : Int} (hx : IsI x u) (hy : IsI y v) (hb : (u + v).natAbs < 9007199254740992) : ∃ r, floatBits .add .f64 x y = some r ∧ IsI r (u + v) := by
  obtain ⟨s, m, rfl, hm, rfl⟩ := hx
  obtain ⟨t, n, rfl, hn, rfl⟩ := hy
  obtain ⟨k, hk⟩ := read_wrote s m hm
  obtain ⟨l, hl⟩ := read_wrote t n hn
  obtain ⟨sg, K, h1, h2⟩ := sum_exact s t m n k l
  refine ⟨wrote sg (sv s m + sv t n).natAbs, ?_, sg, _, rfl, hb, h2.symm⟩
  show double.add _ _ = _
  unfold Format.add
  rw [hk, hl, h1]
  simp only [Option.map_some, Format.write]
  rw [nearest_shift _ _ _ hb]
theorem sv_not (s : Bool) (m : Nat) : sv (!s) m = - sv s m := by cases s <;> simp [sv]
theorem IsI.sub {x y : Nat} {u v : Int} (hx : IsI x u) (hy : IsI y v) (hb : (u - v).natAbs < 9007199254740992) : ∃ r, floatBits .sub .f64 x y = some r ∧ IsI r (u - v) := by
  obtain ⟨s, m, rfl, hm, rfl⟩ := hx
  obtain ⟨t, n, rfl, hn, rfl⟩ := hy
  obtain ⟨k, hk⟩ := read_wrote s m hm
  obtain ⟨l, hl⟩ := read_wrote t n hn
  obtain ⟨sg, K, h1, h2⟩ := sum_exact s (!t) m n k l
  rw [sv_not, ← Int.sub_eq_add_neg] at h1 h2
  refine ⟨wrote sg (sv s m - sv t n).natAbs, ?_, sg, _, rfl, hb, h2.symm⟩
  show double.sub _ _ = _
  unfold Format.sub
  rw [hk, hl]
  simp only [Datum.opposite]
  rw [h1]
  simp only [Option.map_some, Format.write]
  rw [nearest_shift _ _ _ hb]
theorem IsI.mul {x y : Nat} {u v : Int} (hx : IsI x u) (hy : IsI y v) (hb : (u * v).natAbs < 9007199254740992) : ∃ r, floatBits .mul .f64 x y = some r ∧ IsI r (u * v) := by
  obtain ⟨s, m, rfl, hm, rfl⟩ := hx
  obtain ⟨t, n, rfl, hn, rfl⟩ := hy
  obtain ⟨k, hk⟩ := read_wrote s m hm
  obtain ⟨l, hl⟩ := read_wrote t n hn
  have hmn : m * n < 9007199254740992 := by rw [Int.natAbs_mul, sv_abs, sv_abs] at hb; exact hb
  refine ⟨wrote (s ^^ t) (m * n), ?_, s ^^ t, m * n, rfl, hmn, ?_⟩
  · show double.mul _ _ = _
    unfold Format.mul
    rw [hk, hl]
    simp only [Datum.product, Option.map_some, Format.write]
    have e : (m <<< k) * (n <<< l) = (m * n) <<< (k + l) := by
      simp only [Nat.shiftLeft_eq, Nat.pow_add, Nat.mul_assoc, Nat.mul_left_comm]
    have e2 : -(k : Int) + -(l : Int) = -((k + l : Nat) : Int) := by omega
    rw [e, e2, nearest_shift _ _ _ hmn]
  · cases s <;> cases t <;> simp [sv, Int.neg_mul, Int.mul_neg]
theorem IsI.eq {x y : Nat} {u v : Int} (hx : IsI x u) (hy : IsI y v) : Op.floatEq .f64 x y = decide (u = v) := by
  obtain ⟨s, m, rfl, hm, rfl⟩ := hx
  obtain ⟨t, n, rfl, hn, rfl⟩ := hy
  obtain ⟨k, hk⟩ := read_wrote s m hm
  obtain ⟨l, hl⟩ := read_wrote t n hn
  show (double.order _ _ == some .eq) = _
  unfold Format.order
  rw [hk, hl]
  have hbase : min (-(k : Int)) (-(l : Int)) = -((max k l : Nat) : Int) := by omega
  have h1 : (-(k : Int) - -((max k l : Nat) : Int)).toNat = max k l - k := by omega
  have h2 : (-(l : Int) - -((max k l : Nat) : Int)).toNat = max k l - l := by omega
  simp only [Datum.order, hbase, h1, h2, signed_scale s m k (max k l) (by omega), signed_scale t n l (max k l) (by omega)]
  have hp : (0 : Int) < 2 ^ (max k l) := Int.pow_pos (by omega)
  generalize sv s m = u
  generalize sv t n = v
  by_cases huv : u = v
  · subst huv; simp
  · have hne : u * 2 ^ max k l ≠ v * 2 ^ max k l := fun h => huv (Int.eq_of_mul_eq_mul_right (by omega) h)
    simp only [huv, decide_false]
    have : compare (u * 2 ^ max k l) (v * 2 ^ max k l) ≠ .eq := fun h => hne (by simpa using h)
    cases h : compare (u * 2 ^ max k l) (v * 2 ^ max k l) <;> simp_all
theorem IsI.ofInt (n : Int) (h : n.natAbs < 9007199254740992) : IsI (floatOfInt .f64 n) n := by
  refine ⟨decide (n < 0), n.natAbs, rfl, h, ?_⟩
  unfold sv
  by_cases hn : n < 0
  · simp [hn]; omega
  · simp [hn]; omega
end Go.Proofs.YtlfclpdcingpnaaDoor
