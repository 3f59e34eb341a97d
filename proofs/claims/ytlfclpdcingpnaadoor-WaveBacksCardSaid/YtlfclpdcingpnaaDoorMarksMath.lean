/- Lanes, turns and waves of a list. -/
import Derived.Test.YtlfclpdcingpnaaDoorFour
open Go.RowKit
namespace Go.Proofs.YtlfclpdcingpnaaDoor

theorem eql_c_neq (x y u v : Nat) (W : World) : (binOp .neq 31 (.complex .f64 x y) (.complex .f64 u v)).run Tryd.prog W = .ok (.bool (!(Op.floatEq .f64 x u && Op.floatEq .f64 y v))) W := by
  simp [binOp, Op.complexOp, Op.Complex.cmp, Op.floatCmp, asBool]
  rfl
theorem neq_f4' (a0 a1 a2 a3 b0 b1 b2 b3 : Nat) (W : World) :
    (binOp .neq 37 (.agg #[.float .f64 a0, .float .f64 a1, .float .f64 a2, .float .f64 a3]) (.agg #[.float .f64 b0, .float .f64 b1, .float .f64 b2, .float .f64 b3])).run Tryd.prog W = .ok (.bool (!(Op.floatEq .f64 a0 b0 && (Op.floatEq .f64 a1 b1 && (Op.floatEq .f64 a2 b2 && Op.floatEq .f64 a3 b3))))) W := by
  have h := eql_f4' a0 a1 a2 a3 b0 b1 b2 b3 W
  rw [run_eql_struct] at h
  rw [run_neq_struct]
  generalize (Op.equalIn 10000 37 _ _).run Tryd.prog W = r at h
  cases r with
  | ok b w =>
    simp only [Result.andThen_ok, Result.ok.injEq, Value.bool.injEq] at h ⊢
    exact ⟨by rw [h.1], h.2⟩
  | halt x w => simp [Result.andThen] at h

theorem cnt_cons (j a : Nat) (l : List Nat) : cnt j (a :: l) = (if a % 4 = j then 1 else 0) + cnt j l := by
  unfold cnt
  by_cases h : a % 4 = j
  · rw [List.filter_cons_of_pos (by simpa using h)]; simp [h]; omega
  · rw [List.filter_cons_of_neg (by simpa using h)]; simp [h]
theorem sums_lanes (l : List Nat) : tre l = cnt 0 l - cnt 2 l ∧ tim l = cnt 1 l - cnt 3 l := by
  induction l with
  | nil => simp [tre, tim, cnt]
  | cons a l ih =>
    have e1 : tre (a :: l) = (turnZ a).1 + tre l := by simp [tre]
    have e2 : tim (a :: l) = (turnZ a).2 + tim l := by simp [tim]
    rw [e1, e2, ih.1, ih.2, cnt_cons, cnt_cons, cnt_cons, cnt_cons]
    unfold turnZ
    rcases (by omega : a % 4 = 0 ∨ a % 4 = 1 ∨ a % 4 = 2 ∨ a % 4 = 3) with h | h | h | h
    all_goals
      have h' : (a : Int) % 4 = ((a % 4 : Nat) : Int) := by omega
      rw [h', h]
      simp
      omega

/-- The sum of the first lanes, each times its turn. -/
def psum (l : List Nat) : Nat → Int × Int
  | 0 => (0, 0)
  | i + 1 => ((psum l i).1 + cnt i l * (turnZ (i : Nat)).1, (psum l i).2 + cnt i l * (turnZ (i : Nat)).2)
theorem psum_four (l : List Nat) : psum l 4 = (tre l, tim l) := by
  obtain ⟨h1, h2⟩ := sums_lanes l
  rw [h1, h2]
  have t0 : turnZ ((0 : Nat) : Int) = (1, 0) := by decide
  have t1 : turnZ ((1 : Nat) : Int) = (0, 1) := by decide
  have t2 : turnZ ((2 : Nat) : Int) = (-1, 0) := by decide
  have t3 : turnZ ((3 : Nat) : Int) = (0, -1) := by decide
  have e (i : Nat) : psum l (i + 1) = ((psum l i).1 + cnt i l * (turnZ (i : Nat)).1, (psum l i).2 + cnt i l * (turnZ (i : Nat)).2) := rfl
  have e0 : psum l 0 = (0, 0) := rfl
  have e1 := e 0
  rw [e0, t0] at e1
  have e2 := e 1
  rw [e1, t1] at e2
  have e3 := e 2
  rw [e2, t2] at e3
  have e4 := e 3
  rw [e3, t3] at e4
  rw [e4]
  simp only [Prod.mk.injEq]
  constructor <;> omega
theorem psum_abs (l : List Nat) (hl : l.length ≤ 128) : ∀ i, (psum l i).1.natAbs ≤ 128 * i ∧ (psum l i).2.natAbs ≤ 128 * i
  | 0 => by simp [psum]
  | i + 1 => by
    have ih := psum_abs l hl i
    have hc := cnt_le i l
    obtain ⟨t1, t2⟩ := turnZ_abs (i : Nat)
    have m (q : Int) (hq : q.natAbs ≤ 1) : (cnt i l * q).natAbs ≤ 128 := by
      rw [Int.natAbs_mul]
      have : (cnt i l).natAbs ≤ 128 := by omega
      exact Nat.le_trans (Nat.mul_le_mul this hq) (by omega)
    have m1 := m _ t1
    have m2 := m _ t2
    unfold psum
    constructor <;> simp only <;> omega

theorem alike_waves (l : List Nat) : alike l = ((decide (cnt 0 l - cnt 2 l = 0) && decide (-(cnt 1 l - cnt 3 l) = 0)) && ((decide (cnt 0 l + cnt 2 l - (cnt 1 l + cnt 3 l) = 0)) && (decide (cnt 0 l - cnt 2 l = 0) && decide (cnt 1 l - cnt 3 l = 0)))) := by
  unfold alike
  rw [Bool.eq_iff_iff]
  simp only [Bool.and_eq_true, decide_eq_true_eq]
  constructor
  · rintro ⟨h0, h1, h2, h3⟩
    rw [h1, h2, h3]
    refine ⟨⟨by simp, by simp⟩, by simp, by simp, by simp⟩
  · rintro ⟨⟨h1, h2⟩, h3, h4, h5⟩
    have e1 : cnt 0 l = cnt 2 l := Int.sub_eq_zero.1 h1
    have e2 : cnt 1 l = cnt 3 l := Int.sub_eq_zero.1 h5
    have e3 : cnt 0 l + cnt 2 l = cnt 1 l + cnt 3 l := Int.sub_eq_zero.1 h3
    generalize cnt 0 l = a at *
    generalize cnt 1 l = b at *
    generalize cnt 2 l = c at *
    generalize cnt 3 l = d at *
    subst e1 e2
    have : a = b := by omega
    exact ⟨trivial, this.symm, rfl, this.symm⟩
end Go.Proofs.YtlfclpdcingpnaaDoor
