/- Arrays compared: two words, four floats. -/
import Derived.Test.YtiolfnnkkflaiaaDoorBase
import Derived.ChangeKeysEq
import Derived.Laws.StructEq
open Go.RowKit
namespace Go.Proofs.YtiolfnnkkflaiaaDoor

section
variable {P : Program}
theorem info_of {e : TypeId} {c : Nat} (h : (P.info? e).map (·.size) = some c) : ∃ i, P.info? e = some i ∧ i.size = c := by
  cases hi : P.info? e with
  | none => rw [hi] at h; cases h
  | some i => rw [hi] at h; exact ⟨i, rfl, by simpa using h⟩
/-- Two words. -/
theorem eql_u2 {t e : TypeId} (hu : P.underlying t = some (.array 2 e)) (he : P.underlying e = some (.int .u64)) (hp : P.plainKey e = true) (hc : P.cellsOf e = 1) (hi : (P.info? e).map (·.size) = some 1) (a b c d : Int) (W : World) :
    (binOp .eql t (.agg #[.int .u64 a, .int .u64 b]) (.agg #[.int .u64 c, .int .u64 d])).run P W = .ok (.bool (a == c && b == d)) W := by
  obtain ⟨i, h1, h2⟩ := info_of hi
  rw [run_eql_struct, show (10000 : Nat) = 9999 + 1 from rfl, run_equalIn_array W 9999 _ _ hu h1, hc, show List.range 2 = [0, 1] from rfl]
  have p0 (x y : Int) : (part e #[.int .u64 x, .int .u64 y] 0).run P W = .ok (.int .u64 x) W := run_part_plain W hp rfl
  have p1 (x y : Int) : (part e #[.int .u64 x, .int .u64 y] 1).run P W = .ok (.int .u64 y) W := run_part_plain W hp rfl
  simp only [Op.eqItems, Sem.run_bind, Nat.zero_mul, Nat.mul_one, p0, Result.andThen_ok]
  rw [show (9999 : Nat) = 9998 + 1 from rfl, run_equalIn_int W 9998 e .u64 .u64 a c he]
  have e1 := run_equalIn_int W 9998 e .u64 .u64 b d he
  cases h : (a == c)
  · simp
  · simp only [Result.andThen_ok, Bool.not_true, Bool.false_eq_true, if_false, Sem.run_bind, p1, e1, Bool.true_and]
    cases h' : (b == d) <;> simp
/-- Four floats. -/
theorem equalIn_f (d : Nat) (t : TypeId) (a b : Nat) (h : P.underlying t = some (.float .f64)) (W : World) : (Op.equalIn (d + 1) t (.float .f64 a) (.float .f64 b)).run P W = .ok (Op.floatEq .f64 a b) W := by
  simp [Op.equalIn, run_underlying h]
theorem eql_f4 {t e : TypeId} (hu : P.underlying t = some (.array 4 e)) (he : P.underlying e = some (.float .f64)) (hag : ∀ (xs : Array Value) (k : Nat) (v : Value), xs[k]? = some v → ∀ W : World, (part e xs k).run P W = .ok v W) (hc : P.cellsOf e = 1) (hi : (P.info? e).map (·.size) = some 1)
    (a0 a1 a2 a3 b0 b1 b2 b3 : Nat) (W : World) :
    (binOp .eql t (.agg #[.float .f64 a0, .float .f64 a1, .float .f64 a2, .float .f64 a3]) (.agg #[.float .f64 b0, .float .f64 b1, .float .f64 b2, .float .f64 b3])).run P W = .ok (.bool (Op.floatEq .f64 a0 b0 && (Op.floatEq .f64 a1 b1 && (Op.floatEq .f64 a2 b2 && Op.floatEq .f64 a3 b3)))) W := by
  obtain ⟨i, h1, h2⟩ := info_of hi
  rw [run_eql_struct, show (10000 : Nat) = 9999 + 1 from rfl, run_equalIn_array W 9999 _ _ hu h1, hc, show List.range 4 = [0, 1, 2, 3] from rfl]
  have p0 (x y z u : Value) : (part e #[x, y, z, u] 0).run P W = .ok x W := hag _ 0 _ rfl W
  have p1 (x y z u : Value) : (part e #[x, y, z, u] 1).run P W = .ok y W := hag _ 1 _ rfl W
  have p2 (x y z u : Value) : (part e #[x, y, z, u] 2).run P W = .ok z W := hag _ 2 _ rfl W
  have p3 (x y z u : Value) : (part e #[x, y, z, u] 3).run P W = .ok u W := hag _ 3 _ rfl W
  have q0 := equalIn_f 9998 e a0 b0 he W
  have q1 := equalIn_f 9998 e a1 b1 he W
  have q2 := equalIn_f 9998 e a2 b2 he W
  have q3 := equalIn_f 9998 e a3 b3 he W
  simp only [Op.eqItems, Sem.run_bind, Nat.zero_mul, Nat.mul_one, p0, q0, Result.andThen_ok]
  cases h0 : Op.floatEq .f64 a0 b0
  · simp
  simp only [Result.andThen_ok, Bool.not_true, Bool.false_eq_true, if_false, Sem.run_bind, p1, q1, Bool.true_and]
  cases h1 : Op.floatEq .f64 a1 b1
  · simp
  simp only [Result.andThen_ok, Bool.not_true, Bool.false_eq_true, if_false, Sem.run_bind, p2, q2, Bool.true_and]
  cases h2 : Op.floatEq .f64 a2 b2
  · simp
  simp only [Result.andThen_ok, Bool.not_true, Bool.false_eq_true, if_false, Sem.run_bind, p3, q3, Bool.true_and]
  cases h3 : Op.floatEq .f64 a3 b3 <;> simp
end
end Go.Proofs.YtiolfnnkkflaiaaDoor
