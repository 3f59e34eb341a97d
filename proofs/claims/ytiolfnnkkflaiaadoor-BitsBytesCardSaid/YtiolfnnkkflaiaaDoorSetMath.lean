/- The numbers of a set, as lists. -/
import Derived.Test.YtiolfnnkkflaiaaDoorSet
import Derived.Lib.TrailingZeros
namespace Go.Proofs.YtiolfnnkkflaiaaDoor

/-- Of one word; of both. -/
def lo (x : Nat) : List Nat := (List.range 64).filter x.testBit
def lst (a b : Nat) : List Nat := (List.range 128).filter (has a b)

theorem lo_zero : lo 0 = [] := by simp [lo]
theorem lst_eq (a b : Nat) : lst a b = lo a ++ (lo b).map (64 + ·) := by
  have h1 : (List.range 64).filter (has a b) = (List.range 64).filter a.testBit := by
    apply List.filter_congr
    intro i hi
    simp only [List.mem_range] at hi
    simp [has, hi]
  have h2 : (List.range 64).filter (has a b ∘ (64 + ·)) = (List.range 64).filter b.testBit := by
    apply List.filter_congr
    intro i hi
    have n64 : ¬ (64 + i < 64) := by omega
    simp [has, n64]
  have h3 : List.range 128 = List.range 64 ++ (List.range 64).map (64 + ·) := List.range_add (n := 64) (m := 64)
  unfold lst lo
  rw [h3, List.filter_append, List.filter_map, h1, h2]

theorem filter_least (p : Nat → Bool) (n k : Nat) (hk : k < n) (hp : p k = true) (hlt : ∀ i, i < k → p i = false) : (List.range n).filter p = k :: (List.range n).filter (fun i => p i && i != k) := by
  obtain ⟨d, rfl⟩ : ∃ d, n = k + (d + 1) := ⟨n - k - 1, by omega⟩
  rw [List.range_add, List.filter_append, List.filter_append]
  have h1 (q : Nat → Bool) (hq : ∀ i, i < k → q i = false) : (List.range k).filter q = [] := by
    rw [List.filter_eq_nil_iff]
    intro i hi
    rw [hq i (by simpa using hi)]; simp
  rw [h1 p hlt, h1 _ (fun i hi => by simp [hlt i hi]), List.nil_append, List.nil_append, List.range_succ_eq_map, List.map_cons, List.map_map]
  rw [List.filter_cons_of_pos (by simpa using hp), List.filter_cons_of_neg (by simp)]
  simp only [Nat.add_zero]
  congr 1
  apply List.filter_congr
  intro i hi
  simp only [List.mem_map, List.mem_range, Function.comp] at hi
  obtain ⟨j, _, rfl⟩ := hi
  have : (k + (j + 1) != k) = true := by rw [bne_iff_ne]; omega
  simp [this]

theorem low_bits (x : Nat) (hx : x < 18446744073709551616) (h0 : x ≠ 0) : Lib.ctz 64 x < 64 ∧ x.testBit (Lib.ctz 64 x) = true ∧ (∀ i, i < Lib.ctz 64 x → x.testBit i = false) ∧ ∀ i, (x &&& (x - 1)).testBit i = (x.testBit i && i != Lib.ctz 64 x) := by
  have e : Lib.ctz 64 x = Lib.ctzFrom 64 x := by simp [Lib.ctz, h0]
  obtain ⟨m, hm, hk⟩ := Lib.ctzFrom_spec 64 x (by omega) hx
  rw [e]
  generalize Lib.ctzFrom 64 x = k at hm hk
  have hb (i : Nat) : x.testBit i = (decide (k ≤ i) && (2 * m + 1).testBit (i - k)) := by
    rw [hm, Nat.mul_comm, Nat.testBit_mul_two_pow]
  have hb1 (j : Nat) : (x - 1).testBit (k + j) = (2 * m).testBit j := by
    have h1 : (x - 1) / 2 ^ k = 2 * m := by
      have hp : 0 < 2 ^ k := Nat.two_pow_pos _
      have h2 : x - 1 = (2 ^ k - 1) + 2 ^ k * (2 * m) := by rw [hm, Nat.mul_add]; omega
      rw [h2, Nat.add_mul_div_left _ _ hp, Nat.div_eq_of_lt (by omega)]; omega
    rw [← h1, Nat.testBit_div_two_pow, Nat.add_comm]
  refine ⟨hk, ?_, fun i hi => ?_, fun i => ?_⟩
  · rw [hb]; simp [Nat.testBit_zero]
  · rw [hb]; simp; omega
  · rw [Nat.testBit_and]
    by_cases hi : i < k
    · have : x.testBit i = false := by rw [hb]; simp; omega
      simp [this]
    · obtain ⟨j, rfl⟩ : ∃ j, i = k + j := ⟨i - k, by omega⟩
      rw [hb1]
      cases j with
      | zero => simp [Nat.testBit_zero]
      | succ j =>
        have h1 : (k + (j + 1) != k) = true := by rw [bne_iff_ne]; omega
        rw [h1, hb, show k + (j + 1) - k = j + 1 by omega, Nat.testBit_succ, Nat.testBit_succ]
        have e1 : (2 * m + 1) / 2 = m := by omega
        have e2 : 2 * m / 2 = m := by omega
        rw [e1, e2]; simp

theorem lo_step (x : Nat) (hx : x < 18446744073709551616) (h0 : x ≠ 0) : lo x = Lib.ctz 64 x :: lo (x &&& (x - 1)) := by
  obtain ⟨h1, h2, h3, h4⟩ := low_bits x hx h0
  unfold lo
  rw [filter_least x.testBit 64 _ h1 h2 h3]
  congr 1
  apply List.filter_congr
  intro i _
  rw [h4]
theorem and_pred_lt (x : Nat) (h0 : x ≠ 0) : x &&& (x - 1) < x := by
  have : x &&& (x - 1) ≤ x - 1 := Nat.and_le_right
  omega
end Go.Proofs.YtiolfnnkkflaiaaDoor
