/- The reference's product, and the sums of waves times turns. -/
import Derived.Test.YtlfclpdcingpnaaDoorLaw35C
open Go.RowKit
namespace Go.Proofs.YtlfclpdcingpnaaDoor

theorem unit_mul (a c : Int) (n : Nat) (ha : a.natAbs ≤ 1) (hc : c.natAbs ≤ n) : (a * c).natAbs ≤ n := by
  rw [Int.natAbs_mul]; exact Nat.le_trans (Nat.mul_le_mul ha hc) (by omega)

set_option maxRecDepth 100000 in
theorem times_any (a b c d : Int) (ha : a.natAbs ≤ 1) (hb : b.natAbs ≤ 1) (hc : c.natAbs ≤ 1099511627776) (hd : d.natAbs ≤ 1099511627776) (w : World) : Calls Tryd.prog 33 #[.agg #[.int .i64 a, .int .i64 b], .agg #[.int .i64 c, .int .i64 d]] w fun e w' => e = .returned (.agg #[.int .i64 (a * c - b * d), .int .i64 (a * d + b * c)]) ∧ Below w.heap.size w w' := by
  have m1 := unit_mul a c _ ha hc
  have m2 := unit_mul b d _ hb hd
  have m3 := unit_mul a d _ ha hd
  have m4 := unit_mul b c _ hb hc
  have h1 := wrap64_big (a * c) (by omega)
  have h2 := wrap64_big (b * d) (by omega)
  have h3 := wrap64_big (a * d) (by omega)
  have h4 := wrap64_big (b * c) (by omega)
  have h5 := wrap64_big (a * c - b * d) (by omega)
  have h6 := wrap64_big (a * d + b * c) (by omega)
  clear m1 m2 m3 m4 ha hb hc hd
  go_enter Tryd.func33, Tryd.ntmps33
  go_wp2
  try simp only [Exit.inBlock, Exit.then]
  have hg := heap_alloc_new ((w.alloc (.cells #[.int .i64 a, .int .i64 b] 43)).alloc (.cells #[.int .i64 c, .int .i64 d] 43)) (.cells #[.int .i64 (a * c - b * d), .int .i64 (a * d + b * c)] 43)
  rw [size_alloc, size_alloc] at hg
  exact bodyPost_ret (results_cell_row rfl _ _ (w.heap.size + 1 + 1) _ _ _ _ rfl hg Tryd.underlying43 rfl (by kernel_rfl)) rfl ⟨rfl, (((Below.refl _ _).alloc (Nat.le_refl _) _).alloc (by rw [size_alloc]; omega) _).alloc (by rw [size_alloc, size_alloc]; omega) _⟩

/-- Four pairs, as cells. -/
def prs (f : Nat → Int × Int) : Array Value := #[.int .i64 (f 0).1, .int .i64 (f 0).2, .int .i64 (f 1).1, .int .i64 (f 1).2, .int .i64 (f 2).1, .int .i64 (f 2).2, .int .i64 (f 3).1, .int .i64 (f 3).2]
def upd (f : Nat → Int × Int) (j : Nat) (v : Int × Int) : Nat → Int × Int := fun i => if i = j then v else f i
theorem prs_get (f : Nat → Int × Int) (j : Nat) (hj : j < 4) : (prs f)[j * 2]? = some (.int .i64 (f j).1) ∧ (prs f)[j * 2 + 1]? = some (.int .i64 (f j).2) := by
  rcases (by omega : j = 0 ∨ j = 1 ∨ j = 2 ∨ j = 3) with rfl | rfl | rfl | rfl <;> exact ⟨rfl, rfl⟩
theorem prs_set (f : Nat → Int × Int) (j : Nat) (hj : j < 4) (v : Int × Int) : ((prs f).setIfInBounds (j * 2) (.int .i64 v.1)).setIfInBounds (j * 2 + 1) (.int .i64 v.2) = prs (upd f j v) := by
  rcases (by omega : j = 0 ∨ j = 1 ∨ j = 2 ∨ j = 3) with rfl | rfl | rfl | rfl <;> rfl

/-- The sum of the first waves, each times its turn. -/
def part35 (f : Nat → Int × Int) (j : Nat) : Nat → Int × Int
  | 0 => (0, 0)
  | k + 1 => ((part35 f j k).1 + ((turnZ ((j * k : Nat) : Int)).1 * (f k).1 - (turnZ ((j * k : Nat) : Int)).2 * (f k).2), (part35 f j k).2 + ((turnZ ((j * k : Nat) : Int)).1 * (f k).2 + (turnZ ((j * k : Nat) : Int)).2 * (f k).1))
theorem part35_succ (f : Nat → Int × Int) (j k : Nat) : part35 f j (k + 1) = ((part35 f j k).1 + ((turnZ ((j * k : Nat) : Int)).1 * (f k).1 - (turnZ ((j * k : Nat) : Int)).2 * (f k).2), (part35 f j k).2 + ((turnZ ((j * k : Nat) : Int)).1 * (f k).2 + (turnZ ((j * k : Nat) : Int)).2 * (f k).1)) := rfl
theorem part35_zero (f : Nat → Int × Int) (j : Nat) : part35 f j 0 = (0, 0) := rfl
attribute [irreducible] part35
theorem part35_abs (f : Nat → Int × Int) (N : Nat) (hf : ∀ k, k < 4 → (f k).1.natAbs ≤ N ∧ (f k).2.natAbs ≤ N) (j k : Nat) (hk : k ≤ 4) : (part35 f j k).1.natAbs ≤ (N + N) * k ∧ (part35 f j k).2.natAbs ≤ (N + N) * k := by
  induction k with
  | zero => rw [part35_zero]; exact ⟨Nat.zero_le _, Nat.zero_le _⟩
  | succ k ih =>
    have ih := ih (by omega)
    obtain ⟨t1, t2⟩ := turnZ_abs ((j * k : Nat) : Int)
    obtain ⟨c1, c2⟩ := hf k (by omega)
    have m1 := unit_mul _ _ _ t1 c1
    have m2 := unit_mul _ _ _ t2 c2
    have m3 := unit_mul _ _ _ t1 c2
    have m4 := unit_mul _ _ _ t2 c1
    rw [part35_succ, Nat.mul_succ]
    generalize (N + N) * k = M at ih ⊢
    constructor <;> simp only <;> omega
end Go.Proofs.YtlfclpdcingpnaaDoor
