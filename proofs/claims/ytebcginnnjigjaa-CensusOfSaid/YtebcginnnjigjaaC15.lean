/- Packets compared. -/
import Derived.Test.YtebcginnnjigjaaC11
import Derived.Laws.StructEq
import Derived.ChangeKeysEq
open Go.RowKit
namespace Go.Proofs.Ytebcginnnjigjaa

theorem fields_pk : ∃ f0 f1 : Field, (Try.prog.fieldsOf 51).toList = [f0, f1] ∧ f0.name ≠ "_" ∧ f1.name ≠ "_" ∧ f0.type = 3 ∧ f1.type = 9 ∧ f0.offset = 0 ∧ f1.offset = 1 := by
  simp only [Program.fieldsOf, Try.underlying51]
  exact ⟨_, _, rfl, by decide, by decide, rfl, rfl, rfl, rfl⟩
theorem eqIn_pk (a b : Int) (s t : ByteArray) (W : World) : (Op.equalIn 10000 51 (.agg #[.int .i64 a, .string s]) (.agg #[.int .i64 b, .string t])).run Try.prog W = .ok (a == b && s == t) W := by
  rw [show (10000 : Nat) = 9999 + 1 from rfl, run_equalIn_struct W 9999 51 _ _ (by kernel_rfl) (by kernel_rfl)]
  obtain ⟨f0, f1, hf, n0, n1, t0, t1, o0, o1⟩ := fields_pk
  rw [hf]
  simp only [Op.eqFields, n0, n1, t0, t1, o0, o1, ne_eq, not_false_eq_true, if_true, Sem.run_bind]
  rw [run_part_plain (P := Try.prog) (w := W) (e := 3) (off := 0) (v := .int .i64 a) (by kernel_rfl) rfl, Result.andThen_ok, run_part_plain (P := Try.prog) (w := W) (e := 3) (off := 0) (v := .int .i64 b) (by kernel_rfl) rfl, Result.andThen_ok, show (9999 : Nat) = 9998 + 1 from rfl, run_equalIn_int W 9998 3 _ _ a b Try.underlying3, Result.andThen_ok]
  by_cases h : a = b
  · subst h
    simp only [beq_self_eq_true, Bool.not_true, Bool.false_eq_true, if_false, Bool.true_and]
    rw [Sem.run_bind, run_part_plain (P := Try.prog) (w := W) (e := 9) (off := 1) (v := .string s) (by kernel_rfl) rfl, Result.andThen_ok, Sem.run_bind, run_part_plain (P := Try.prog) (w := W) (e := 9) (off := 1) (v := .string t) (by kernel_rfl) rfl, Result.andThen_ok, Sem.run_bind, run_equalIn_string W 9998 9 s t Try.underlying9, Result.andThen_ok, beq_toListBytes]
    cases s.toList == t.toList <;> simp [Sem.run_pure]
  · have h1 : (a == b) = false := by rw [beq_eq_false_iff_ne]; exact h
    simp [h1, Sem.run_pure]
theorem eql_pk (a b : Int) (s t : ByteArray) (W : World) : (binOp .eql 51 (.agg #[.int .i64 a, .string s]) (.agg #[.int .i64 b, .string t])).run Try.prog W = .ok (.bool (a == b && s == t)) W := by
  rw [run_eql_struct, eqIn_pk, Result.andThen_ok]
theorem neq_pk (a b : Int) (s t : ByteArray) (W : World) : (binOp .neq 51 (.agg #[.int .i64 a, .string s]) (.agg #[.int .i64 b, .string t])).run Try.prog W = .ok (.bool (!(a == b && s == t))) W := by
  rw [run_neq_struct, eqIn_pk, Result.andThen_ok]
end Go.Proofs.Ytebcginnnjigjaa
