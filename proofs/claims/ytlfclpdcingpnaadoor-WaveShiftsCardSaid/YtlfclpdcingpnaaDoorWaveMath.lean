/- The turns of numbers that are all so many more. -/
import Derived.Test.YtlfclpdcingpnaaDoorWave
namespace Go.Proofs.YtlfclpdcingpnaaDoor

theorem turnZ_add (n k : Nat) : (turnZ ((n + k : Nat) : Int)).1 = (turnZ n).1 * (turnZ k).1 - (turnZ n).2 * (turnZ k).2 ∧ (turnZ ((n + k : Nat) : Int)).2 = (turnZ n).1 * (turnZ k).2 + (turnZ n).2 * (turnZ k).1 := by
  have h (m : Nat) (j : Nat) (hj : m % 4 = j) : turnZ (m : Int) = turnZ (j : Int) := by
    unfold turnZ
    have : (m : Int) % 4 = (j : Int) % 4 := by omega
    rw [this]
  rw [h n (n % 4) rfl, h k (k % 4) rfl, h (n + k) ((n % 4 + k % 4) % 4) (by omega)]
  have hn : n % 4 < 4 := Nat.mod_lt _ (by omega)
  have hk : k % 4 < 4 := Nat.mod_lt _ (by omega)
  generalize n % 4 = a at hn
  generalize k % 4 = b at hk
  have all : ∀ a, a < 4 → ∀ b, b < 4 → (turnZ (((a + b) % 4 : Nat) : Int)).1 = (turnZ (a : Int)).1 * (turnZ (b : Int)).1 - (turnZ (a : Int)).2 * (turnZ (b : Int)).2 ∧ (turnZ (((a + b) % 4 : Nat) : Int)).2 = (turnZ (a : Int)).1 * (turnZ (b : Int)).2 + (turnZ (a : Int)).2 * (turnZ (b : Int)).1 := by decide +kernel
  exact all a hn b hk

theorem tre_shift (k : Nat) (l : List Nat) : tre (l.map (· + k)) = tre l * (turnZ k).1 - tim l * (turnZ k).2 ∧ tim (l.map (· + k)) = tre l * (turnZ k).2 + tim l * (turnZ k).1 := by
  induction l with
  | nil => simp [tre, tim]
  | cons a l ih =>
    have e1 (x : List Nat) (a : Nat) : tre (a :: x) = (turnZ a).1 + tre x := by simp [tre]
    have e2 (x : List Nat) (a : Nat) : tim (a :: x) = (turnZ a).2 + tim x := by simp [tim]
    obtain ⟨h1, h2⟩ := turnZ_add a k
    rw [List.map_cons, e1, e2, e1, e2, ih.1, ih.2, h1, h2]
    simp only [Int.add_mul]
    omega

/-- The one set is the other one, each number k more. -/
def Shifted (k a0 a1 b0 b1 : Nat) : Prop := (∀ j, j < 128 → has b0 b1 j = (decide (k ≤ j) && has a0 a1 (j - k))) ∧ ∀ i, i < 128 → has a0 a1 i = true → i + k < 128
theorem lst_shift (k a0 a1 b0 b1 : Nat) (hk : k < 128) (h : Shifted k a0 a1 b0 b1) : lst b0 b1 = (lst a0 a1).map (· + k) := by
  unfold lst
  have r1 : List.range 128 = List.range k ++ (List.range (128 - k)).map (k + ·) := by rw [← List.range_add]; congr 1; omega
  have r2 : List.range 128 = List.range (128 - k) ++ (List.range k).map ((128 - k) + ·) := by rw [← List.range_add]; congr 1; omega
  have f1 : (List.range k).filter (has b0 b1) = [] := by
    rw [List.filter_eq_nil_iff]
    intro j hj
    simp only [List.mem_range] at hj
    rw [h.1 j (by omega)]
    simp; omega
  have f2 : ((List.range k).map ((128 - k) + ·)).filter (has a0 a1) = [] := by
    rw [List.filter_eq_nil_iff]
    intro i hi
    simp only [List.mem_map, List.mem_range] at hi
    obtain ⟨j, hj, rfl⟩ := hi
    intro hc
    have := h.2 _ (by omega) hc
    omega
  have f3 : (List.range (128 - k)).filter (has b0 b1 ∘ (k + ·)) = (List.range (128 - k)).filter (has a0 a1) := by
    apply List.filter_congr
    intro i hi
    simp only [List.mem_range] at hi
    simp only [Function.comp]
    rw [h.1 (k + i) (by omega)]
    simp
  conv => lhs; rw [r1]
  conv => rhs; rw [r2]
  rw [List.filter_append, List.filter_append, f1, f2, List.nil_append, List.append_nil, List.filter_map, f3]
  apply List.map_congr_left
  intro i _
  omega
theorem has_sput (a b i j : Nat) (hi : i < 128) : has (sput a b i).1 (sput a b i).2 j = (decide (i = j) || has a b j) := by
  unfold sput has
  by_cases h1 : i < 64
  · simp only [h1, if_true]
    by_cases h2 : j < 64
    · simp [h2, Nat.testBit_or, Nat.testBit_two_pow, Bool.or_comm]
    · have : i ≠ j := by omega
      simp [h2, this]
  · simp only [h1, if_false]
    by_cases h2 : j < 64
    · have : i ≠ j := by omega
      simp [h2, this]
    · have e : (i - 64 = j - 64) = (i = j) := by simp; omega
      simp [h2, Nat.testBit_or, Nat.testBit_two_pow, e, Bool.or_comm]
theorem Shifted.put (k a0 a1 b0 b1 n : Nat) (h : Shifted k a0 a1 b0 b1) (hn : n + k < 128) : Shifted k (sput a0 a1 n).1 (sput a0 a1 n).2 (sput b0 b1 (n + k)).1 (sput b0 b1 (n + k)).2 := by
  refine ⟨fun j hj => ?_, fun i hi hc => ?_⟩
  · rw [has_sput _ _ _ _ (by omega), has_sput _ _ _ _ (by omega), h.1 j hj]
    by_cases hkj : k ≤ j
    · have e : (n + k = j) = (n = j - k) := by simp; omega
      simp [hkj, e]
    · have e : (n + k = j) = False := by simp; omega
      simp [hkj, e]
  · rw [has_sput _ _ _ _ (by omega)] at hc
    simp only [Bool.or_eq_true, decide_eq_true_eq] at hc
    rcases hc with rfl | hc
    · exact hn
    · exact h.2 i hi hc
theorem Shifted.zero (k : Nat) : Shifted k 0 0 0 0 := by
  have h (i : Nat) : has 0 0 i = false := by simp [has]
  exact ⟨fun j _ => by simp [h], fun i _ hc => by simp [h] at hc⟩
end Go.Proofs.YtlfclpdcingpnaaDoor
