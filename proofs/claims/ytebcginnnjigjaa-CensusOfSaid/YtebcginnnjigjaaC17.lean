import Derived.Test.YtebcginnnjigjaaC11
import Derived.Laws.StructEq
import Derived.ChangeKeysEq
import Derived.Deep.QuietTactic
import Derived.BigQuiet
import Derived.Test.YtebcginnnjigjaaC2
section
/- Rows of strings, rows of puts. -/
open Go.RowKit
namespace Go.Proofs.Ytebcginnnjigjaa

def sts (l : List ByteArray) : List Value := l.map .string
theorem sts_length (l : List ByteArray) : (sts l).length = l.length := by simp [sts]
theorem sts_append (a b : List ByteArray) : sts (a ++ b) = sts a ++ sts b := by simp [sts]
theorem sts_get (l : List ByteArray) (k : Nat) (hk : k < l.length) : (sts l)[k]? = some (.string l[k]) := by simp [sts, hk]
theorem sts_set (l : List ByteArray) (k : Nat) (s : ByteArray) : (sts l).set k (.string s) = sts (l.set k s) := by simp [sts, List.map_set]
theorem oneCell_sts (l : List ByteArray) : ∀ u ∈ sts l, u.oneCell' = true := by
  intro u hu
  simp only [sts, List.mem_map] at hu
  obtain ⟨s, _, rfl⟩ := hu
  rfl
theorem info_st : (Try.prog.info? 9).map (fun i => (i.zero, i.size, i.bytes)) = some (some (.string ⟨#[]⟩), 1, 16) := by kernel_rfl

/-- A row of strings of its own. -/
def SRow (w : World) (A : Option Addr) (c : Nat) (l : List ByteArray) : Prop := w.ownsRow 0 9 1 (.slice A l.length c) l.length (sts l)
section
variable {w w1 : World} {A : Option Addr} {c : Nat} {l : List ByteArray} {ps : List (Int × ByteArray)}
theorem SRow.nil (w : World) : SRow w none 0 [] := own_nil w 0 _ 1
theorem SRow.reads (h : SRow w A c l) : Reads w 1 A l.length (sts l) := Reads.of_own h
theorem SRow.lt (h : SRow w A c l) {k : Nat} (hk : blk A = some k) : k < w.heap.size := (World.ownsRow.lt h k (by rw [ownBlock_slice]; exact hk)).2
theorem SRow.chg {F : Nat → Prop} (h : SRow w A c l) (hc : Chg F w w1) (hF : ∀ k, blk A = some k → ¬ F k) : SRow w1 A c l := ownsRow_chg h hc (fun k hk => hF k (by rw [ownBlock_slice] at hk; exact hk))
theorem SRow.below (h : SRow w A c l) (hb : Below w.heap.size w w1) : SRow w1 A c l := h.chg (F := fun _ => False) (.of_below hb) (fun _ _ f => f)
theorem SRow.form (h : SRow w A c l) (h0 : 0 < l.length) : ∃ g, A = some ⟨g, 0, none⟩ ∧ g < w.heap.size := by
  obtain ⟨g, cap, hv, _, hlt⟩ := World.ownsRow.form h h0
  injection hv with hA
  exact ⟨g, hA, hlt⟩
/-- One cell of a row of strings is written. -/
theorem SRow.set {b : Nat} (h : SRow w (some ⟨b, 0, none⟩) c l) (k : Nat) (s : ByteArray) : SRow (w.setCell ⟨b, k, none⟩ (.string s)) (some ⟨b, 0, none⟩) c (l.set k s) := by
  have h1 := (World.ownsRow.stored h k (.string s)).1
  rw [sts_set] at h1
  unfold SRow
  rw [List.length_set]
  exact h1
theorem SRow.fresh (w : World) : SRow (w.alloc (.cells #[] 9)) (some ⟨w.heap.size, 0, none⟩) 0 [] :=
  ⟨rfl, .inr ⟨w.heap.size, 0, #[], rfl, Nat.zero_le _, heap_alloc_new _ _, Nat.le_refl _, Nat.zero_le _, rfl, rfl⟩⟩
theorem str_cell (h : Reads w 1 A l.length (sts l)) {k : Nat} (hk : k < l.length) : ∃ ad : Addr, A = some ad ∧ w.cell? (ad.add k) = some (.string l[k]) := by
  obtain ⟨ad, rfl, hc⟩ := h.2 (by omega)
  exact ⟨ad, rfl, hc _ _ (sts_get l k hk)⟩
theorem addr_one (a : Addr) (n : Nat) : (⟨(a.add n).block, (a.add n).off + 1, none⟩ : Addr) = a.add (n + 1) := by
  unfold Addr.add
  by_cases hn : n = 0
  · subst hn; rfl
  · simp [hn, Nat.add_assoc]
end

theorem wpList_append_st {w : World} {ops : Array Oper} {rest : List Oper} {o : Oper} {a : Act} {Q : Exit → Act → World → Prop} (hgd : o.guard = none) (s x : Operand)
    (ho : o.op = .call { callee := .builtin .append, args := #[s, x], argTypes := #[56, 56] })
    (A : Option Addr) (c : Nat) (ps : List ByteArray) (hs : a.eval s = .slice A ps.length c) (hrow : SRow w A c ps)
    (A' : Option Addr) (c' : Nat) (qs : List ByteArray) (m : Nat) (hm : qs.length = m) (hx : a.eval x = .slice A' m c') (hr : Reads w 1 A' m (sts qs)) (hlen : ps.length + m ≤ 100000)
    (h : ∀ A1 c1 w1, SRow w1 A1 c1 (ps ++ qs) → Chg (fun i => blk A = some i) w w1 → (∀ k, blk A1 = some k → blk A = some k ∨ k = w.heap.size) → wpList Try.prog ops Q rest (a.put o.dst (.slice A1 (ps ++ qs).length c1)) w1) : wpList Try.prog ops Q (o :: rest) a w := by
  obtain ⟨i0, hi, hz0, hz1, hz2⟩ := info_parts info_st
  subst hm
  refine wpList_append_any w hgd s x 56 ho 0 9 i0 _ 1 16 Try.underlying56 hi hz0 hz1 hz2 rfl (by omega) _ _ _ hs hrow A' _ c' _ hx hr (oneCell_sts _) (by unfold maxLen; omega) (by omega) (Nat.zero_le _) ?_
  intro v' w' h1 h2 h3
  obtain ⟨A1, c1, rfl, _⟩ := own_slice h1
  rw [ownBlock_slice] at h2
  have hl : ps.length + qs.length = (ps ++ qs).length := by simp
  rw [← sts_append, hl] at h1
  rw [hl]
  refine h A1 c1 w' h1 ⟨h2.os, h2.tape, h2.output, h2.size, fun i hi hF => h2.block i hi (fun e => hF e.symm)⟩ fun k hk => ?_
  rw [ownBlock_slice, ownBlock_slice] at h3
  rcases h3 with h3 | h3
  · exact .inl (h3 ▸ hk)
  · rw [hk] at h3; exact .inr (Option.some.inj h3)
/-! ### sectors that can be -/
def rightS (s : ByteArray) : Bool := decide (s.size = 64)
theorem rightS_is (s : ByteArray) : ((s.size : Int) == 64) = rightS s := by
  unfold rightS
  rw [Bool.eq_iff_iff, beq_iff_eq, decide_eq_true_iff]
  omega
theorem secRight_any (s : ByteArray) (w : World) : Calls Try.prog 66 #[.string s] w fun e w' => e = .returned (.bool (rightS s)) ∧ w = w' := by
  have H := rightS_is s
  go_enter Try.func66, Try.ntmps66
  go_wp2_with fail
  go_ret
  exact ⟨rfl, rfl⟩
theorem refSecRight_any (s : ByteArray) (w : World) : Calls Try.prog 81 #[.string s] w fun e w' => e = .returned (.bool (rightS s)) ∧ w = w' := by
  have H := rightS_is s
  go_enter Try.func81, Try.ntmps81
  go_wp2_with fail
  go_ret
  exact ⟨rfl, rfl⟩
end Go.Proofs.Ytebcginnnjigjaa

end
section
/- Frames: what one is in memory; its fields compared; whether two are alike. -/
open Go.RowKit
namespace Go.Proofs.Ytebcginnnjigjaa

/-- A frame. -/
structure Fr where
  k : Int
  s : Nat
  e : Nat
  q : Nat
  v : Nat
  n : Int
  f : Int
  i : Int
  c : Int
  d : ByteArray
  l : List ByteArray
/-- Its cells; its list's texts lie at A. -/
def Fr.cells (x : Fr) (A : Option Addr) (c : Nat) : Array Value :=
  #[.int .i64 x.k, .int .u64 (x.s : Int), .int .u64 (x.e : Int), .int .u32 (x.q : Int), .int .u32 (x.v : Int), .int .i64 x.n, .int .i64 x.f, .int .i64 x.i, .int .i64 x.c, .string x.d, .slice A x.l.length c]
def Fr.plain (x : Fr) : Array Value :=
  #[.int .i64 x.k, .int .u64 (x.s : Int), .int .u64 (x.e : Int), .int .u32 (x.q : Int), .int .u32 (x.v : Int), .int .i64 x.n, .int .i64 x.f, .int .i64 x.i, .int .i64 x.c, .string x.d]
def plainEq (x y : Fr) : Bool := (x.k == y.k) && ((x.s == y.s) && ((x.e == y.e) && ((x.q == y.q) && ((x.v == y.v) && ((x.n == y.n) && ((x.f == y.f) && ((x.i == y.i) && ((x.c == y.c) && (decide (x.d = y.d) && true)))))))))
def alikeB (x y : Fr) : Bool := plainEq x y && decide (x.l = y.l)
theorem alikeB_iff (x y : Fr) : alikeB x y = true ↔ x = y := by
  unfold alikeB plainEq
  simp only [Bool.and_eq_true, beq_iff_eq, decide_eq_true_eq, Bool.and_true]
  constructor
  · rintro ⟨⟨h0, h1, h2, h3, h4, h5, h6, h7, h8, h9⟩, h10⟩
    cases x; cases y; simp_all
  · rintro rfl; simp

section
variable {P : Program} {W : World} {d : Nat} {xs ys : Array Value}
theorem eqF_cons {f : Field} {fs : List Field} {a b : Value} {r1 r2 : Bool} (hn : f.name ≠ "_") (ha : (part f.type xs f.offset).run P W = .ok a W) (hb : (part f.type ys f.offset).run P W = .ok b W)
    (he : (Op.equalIn d f.type a b).run P W = .ok r1 W) (hr : (Op.eqFields d xs ys fs).run P W = .ok r2 W) : (Op.eqFields d xs ys (f :: fs)).run P W = .ok (r1 && r2) W := by
  simp only [Op.eqFields, hn, ne_eq, not_false_eq_true, if_true, Sem.run_bind, ha, hb, he, Result.andThen_ok]
  cases r1
  · simp [Sem.run_pure]
  · simpa using hr
theorem eqF_nil : (Op.eqFields d xs ys []).run P W = .ok true W := by simp [Op.eqFields, Sem.run_pure]
end
theorem nat_beq (a b : Nat) : ((a : Int) == (b : Int)) = (a == b) := by
  rw [Bool.eq_iff_iff, beq_iff_eq, beq_iff_eq]; omega
theorem toList_inj {a b : ByteArray} (e : a.toList = b.toList) : a = b := by
  rw [ByteArray.toList_eq, ByteArray.toList_eq] at e
  obtain ⟨⟨x⟩⟩ := a
  obtain ⟨⟨y⟩⟩ := b
  simp only at e
  rw [e]
theorem str_beq (a b : ByteArray) : (a.toList == b.toList) = decide (a = b) := by
  rw [Bool.eq_iff_iff, beq_iff_eq, decide_eq_true_iff]
  exact ⟨toList_inj, fun h => by rw [h]⟩

section
variable {w w1 : World} {g : Nat} {x : Fr} {A : Option Addr} {c : Nat} {t : TypeId}
theorem frCells (hg : w.heap[g]? = some (.cells (x.cells A c) t (0, 0))) : w.cell? ⟨g, 0, none⟩ = some (.int .i64 x.k) ∧ w.cell? ⟨g, 1, none⟩ = some (.int .u64 (x.s : Int)) ∧ w.cell? ⟨g, 2, none⟩ = some (.int .u64 (x.e : Int)) ∧ w.cell? ⟨g, 3, none⟩ = some (.int .u32 (x.q : Int)) ∧ w.cell? ⟨g, 4, none⟩ = some (.int .u32 (x.v : Int)) ∧ w.cell? ⟨g, 5, none⟩ = some (.int .i64 x.n) ∧ w.cell? ⟨g, 6, none⟩ = some (.int .i64 x.f) ∧ w.cell? ⟨g, 7, none⟩ = some (.int .i64 x.i) ∧ w.cell? ⟨g, 8, none⟩ = some (.int .i64 x.c) ∧ w.cell? ⟨g, 9, none⟩ = some (.string x.d) ∧ w.cell? ⟨g, 10, none⟩ = some (.slice A x.l.length c) :=
  ⟨by rw [cell_of_row _ _ _ _ _ _ hg]; rfl, by rw [cell_of_row _ _ _ _ _ _ hg]; rfl, by rw [cell_of_row _ _ _ _ _ _ hg]; rfl, by rw [cell_of_row _ _ _ _ _ _ hg]; rfl, by rw [cell_of_row _ _ _ _ _ _ hg]; rfl, by rw [cell_of_row _ _ _ _ _ _ hg]; rfl, by rw [cell_of_row _ _ _ _ _ _ hg]; rfl, by rw [cell_of_row _ _ _ _ _ _ hg]; rfl, by rw [cell_of_row _ _ _ _ _ _ hg]; rfl, by rw [cell_of_row _ _ _ _ _ _ hg]; rfl, by rw [cell_of_row _ _ _ _ _ _ hg]; rfl⟩
theorem frKeeps {M : List Nat} (hg : w.heap[g]? = some (.cells (x.cells A c) t (0, 0))) (hM : g ∉ M) : (∀ w', KeepsBut M w w' → w'.cell? ⟨g, 0, none⟩ = some (.int .i64 x.k)) ∧ (∀ w', KeepsBut M w w' → w'.cell? ⟨g, 1, none⟩ = some (.int .u64 (x.s : Int))) ∧ (∀ w', KeepsBut M w w' → w'.cell? ⟨g, 2, none⟩ = some (.int .u64 (x.e : Int))) ∧ (∀ w', KeepsBut M w w' → w'.cell? ⟨g, 3, none⟩ = some (.int .u32 (x.q : Int))) ∧ (∀ w', KeepsBut M w w' → w'.cell? ⟨g, 4, none⟩ = some (.int .u32 (x.v : Int))) ∧ (∀ w', KeepsBut M w w' → w'.cell? ⟨g, 5, none⟩ = some (.int .i64 x.n)) ∧ (∀ w', KeepsBut M w w' → w'.cell? ⟨g, 6, none⟩ = some (.int .i64 x.f)) ∧ (∀ w', KeepsBut M w w' → w'.cell? ⟨g, 7, none⟩ = some (.int .i64 x.i)) ∧ (∀ w', KeepsBut M w w' → w'.cell? ⟨g, 8, none⟩ = some (.int .i64 x.c)) ∧ (∀ w', KeepsBut M w w' → w'.cell? ⟨g, 9, none⟩ = some (.string x.d)) ∧ (∀ w', KeepsBut M w w' → w'.cell? ⟨g, 10, none⟩ = some (.slice A x.l.length c)) :=
  ⟨fun w' hk => hk.cell (p := ⟨g, 0, none⟩) (by rw [cell_of_row _ _ _ _ _ _ hg]; rfl) hM, fun w' hk => hk.cell (p := ⟨g, 1, none⟩) (by rw [cell_of_row _ _ _ _ _ _ hg]; rfl) hM, fun w' hk => hk.cell (p := ⟨g, 2, none⟩) (by rw [cell_of_row _ _ _ _ _ _ hg]; rfl) hM, fun w' hk => hk.cell (p := ⟨g, 3, none⟩) (by rw [cell_of_row _ _ _ _ _ _ hg]; rfl) hM, fun w' hk => hk.cell (p := ⟨g, 4, none⟩) (by rw [cell_of_row _ _ _ _ _ _ hg]; rfl) hM, fun w' hk => hk.cell (p := ⟨g, 5, none⟩) (by rw [cell_of_row _ _ _ _ _ _ hg]; rfl) hM, fun w' hk => hk.cell (p := ⟨g, 6, none⟩) (by rw [cell_of_row _ _ _ _ _ _ hg]; rfl) hM, fun w' hk => hk.cell (p := ⟨g, 7, none⟩) (by rw [cell_of_row _ _ _ _ _ _ hg]; rfl) hM, fun w' hk => hk.cell (p := ⟨g, 8, none⟩) (by rw [cell_of_row _ _ _ _ _ _ hg]; rfl) hM, fun w' hk => hk.cell (p := ⟨g, 9, none⟩) (by rw [cell_of_row _ _ _ _ _ _ hg]; rfl) hM, fun w' hk => hk.cell (p := ⟨g, 10, none⟩) (by rw [cell_of_row _ _ _ _ _ _ hg]; rfl) hM⟩
theorem frFroz (hg : w.heap[g]? = some (.cells (x.cells A c) t (0, 0))) (k : Nat) : w.frozen? ⟨g, k, none⟩ = false := frozen_of_row _ _ _ _ _ hg
end

set_option maxRecDepth 100000 in
theorem fields_plain : ∃ f0 f1 f2 f3 f4 f5 f6 f7 f8 f9 : Field, (Try.prog.fieldsOf 122).toList = [f0, f1, f2, f3, f4, f5, f6, f7, f8, f9] ∧
    (f0.name ≠ "_" ∧ f1.name ≠ "_" ∧ f2.name ≠ "_" ∧ f3.name ≠ "_" ∧ f4.name ≠ "_" ∧ f5.name ≠ "_" ∧ f6.name ≠ "_" ∧ f7.name ≠ "_" ∧ f8.name ≠ "_" ∧ f9.name ≠ "_") ∧
    (f0.type = 3 ∧ f1.type = 44 ∧ f2.type = 44 ∧ f3.type = 55 ∧ f4.type = 55 ∧ f5.type = 3 ∧ f6.type = 3 ∧ f7.type = 3 ∧ f8.type = 3 ∧ f9.type = 9) ∧
    (f0.offset = 0 ∧ f1.offset = 1 ∧ f2.offset = 2 ∧ f3.offset = 3 ∧ f4.offset = 4 ∧ f5.offset = 5 ∧ f6.offset = 6 ∧ f7.offset = 7 ∧ f8.offset = 8 ∧ f9.offset = 9) := by
  simp only [Program.fieldsOf, Try.underlying122]
  exact ⟨_, _, _, _, _, _, _, _, _, _, rfl, ⟨by decide, by decide, by decide, by decide, by decide, by decide, by decide, by decide, by decide, by decide⟩, ⟨rfl, rfl, rfl, rfl, rfl, rfl, rfl, rfl, rfl, rfl⟩, rfl, rfl, rfl, rfl, rfl, rfl, rfl, rfl, rfl, rfl⟩
set_option maxRecDepth 100000 in
theorem eqIn_plain (x y : Fr) (W : World) : (Op.equalIn 10000 122 (.agg x.plain) (.agg y.plain)).run Try.prog W = .ok (plainEq x y) W := by
  rw [show (10000 : Nat) = 9999 + 1 from rfl, run_equalIn_struct W 9999 122 _ _ (by kernel_rfl) (by kernel_rfl)]
  obtain ⟨f0, f1, f2, f3, f4, f5, f6, f7, f8, f9, hf, ⟨n0, n1, n2, n3, n4, n5, n6, n7, n8, n9⟩, ⟨t0, t1, t2, t3, t4, t5, t6, t7, t8, t9⟩, o0, o1, o2, o3, o4, o5, o6, o7, o8, o9⟩ := fields_plain
  rw [hf]
  unfold plainEq Fr.plain
  simp only [← nat_beq, ← str_beq]
  refine eqF_cons (a := .int .i64 x.k) (b := .int .i64 y.k) n0 ?_ ?_ ?_ (eqF_cons (a := .int .u64 (x.s : Int)) (b := .int .u64 (y.s : Int)) n1 ?_ ?_ ?_ (eqF_cons (a := .int .u64 (x.e : Int)) (b := .int .u64 (y.e : Int)) n2 ?_ ?_ ?_ (eqF_cons (a := .int .u32 (x.q : Int)) (b := .int .u32 (y.q : Int)) n3 ?_ ?_ ?_ (eqF_cons (a := .int .u32 (x.v : Int)) (b := .int .u32 (y.v : Int)) n4 ?_ ?_ ?_ (eqF_cons (a := .int .i64 x.n) (b := .int .i64 y.n) n5 ?_ ?_ ?_ (eqF_cons (a := .int .i64 x.f) (b := .int .i64 y.f) n6 ?_ ?_ ?_ (eqF_cons (a := .int .i64 x.i) (b := .int .i64 y.i) n7 ?_ ?_ ?_ (eqF_cons (a := .int .i64 x.c) (b := .int .i64 y.c) n8 ?_ ?_ ?_ (eqF_cons (a := .string x.d) (b := .string y.d) n9 ?_ ?_ ?_ eqF_nil)))))))))
  all_goals first
    | (rw [t0, o0]; exact run_part_plain (P := Try.prog) (w := W) (by kernel_rfl) rfl)
    | (rw [t1, o1]; exact run_part_plain (P := Try.prog) (w := W) (by kernel_rfl) rfl)
    | (rw [t2, o2]; exact run_part_plain (P := Try.prog) (w := W) (by kernel_rfl) rfl)
    | (rw [t3, o3]; exact run_part_plain (P := Try.prog) (w := W) (by kernel_rfl) rfl)
    | (rw [t4, o4]; exact run_part_plain (P := Try.prog) (w := W) (by kernel_rfl) rfl)
    | (rw [t5, o5]; exact run_part_plain (P := Try.prog) (w := W) (by kernel_rfl) rfl)
    | (rw [t6, o6]; exact run_part_plain (P := Try.prog) (w := W) (by kernel_rfl) rfl)
    | (rw [t7, o7]; exact run_part_plain (P := Try.prog) (w := W) (by kernel_rfl) rfl)
    | (rw [t8, o8]; exact run_part_plain (P := Try.prog) (w := W) (by kernel_rfl) rfl)
    | (rw [t9, o9]; exact run_part_plain (P := Try.prog) (w := W) (by kernel_rfl) rfl)
    | (rw [t0]; exact run_equalIn_int W 9998 _ _ _ _ _ Try.underlying3)
    | (rw [t1]; exact run_equalIn_int W 9998 _ _ _ _ _ Try.underlying44)
    | (rw [t2]; exact run_equalIn_int W 9998 _ _ _ _ _ Try.underlying44)
    | (rw [t3]; exact run_equalIn_int W 9998 _ _ _ _ _ Try.underlying55)
    | (rw [t4]; exact run_equalIn_int W 9998 _ _ _ _ _ Try.underlying55)
    | (rw [t5]; exact run_equalIn_int W 9998 _ _ _ _ _ Try.underlying3)
    | (rw [t6]; exact run_equalIn_int W 9998 _ _ _ _ _ Try.underlying3)
    | (rw [t7]; exact run_equalIn_int W 9998 _ _ _ _ _ Try.underlying3)
    | (rw [t8]; exact run_equalIn_int W 9998 _ _ _ _ _ Try.underlying3)
    | (rw [t9]; exact run_equalIn_string W 9998 _ _ _ Try.underlying9)
theorem eql_plain (x y : Fr) (W : World) : (binOp .eql 122 (.agg x.plain) (.agg y.plain)).run Try.prog W = .ok (.bool (plainEq x y)) W := by
  rw [run_eql_struct, eqIn_plain, Result.andThen_ok]

set_option maxRecDepth 100000 in
theorem frameOf_any (x : Fr) (A : Option Addr) (c : Nat) (w : World) : Calls Try.prog 67 #[.agg (x.cells A c)] w fun e w' => e = .returned (.agg x.plain) ∧ Below w.heap.size w w' := by
  obtain ⟨k, s, e, q, v, n, f, i, cd, d, l⟩ := x
  unfold Fr.cells Fr.plain
  simp only
  go_enter Try.func67, Try.ntmps67
  go_wp2_with fail
  obtain ⟨hb, _, hg, _⟩ := alloc2 w #[.int .i64 k, .int .u64 (s : Int), .int .u64 (e : Int), .int .u32 (q : Int), .int .u32 (v : Int), .int .i64 n, .int .i64 f, .int .i64 i, .int .i64 cd, .string d, .slice A l.length c] 58 #[.int .i64 k, .int .u64 (s : Int), .int .u64 (e : Int), .int .u32 (q : Int), .int .u32 (v : Int), .int .i64 n, .int .i64 f, .int .i64 i, .int .i64 cd, .string d] 122
  exact bodyPost_ret (results_cell_row rfl _ _ (w.heap.size + 1) _ _ _ _ rfl hg Try.underlying122 rfl (by kernel_rfl)) rfl ⟨rfl, hb⟩

set_option maxRecDepth 100000 in
theorem equalSt_any (A B : Option Addr) (l m : List ByteArray) (c d : Nat) (w : World) (hr : Reads w 1 A l.length (sts l)) (hs : Reads w 1 B m.length (sts m)) (hl : l.length ≤ 2000000) :
    Calls Try.prog 68 #[.slice A l.length c, .slice B m.length d] w fun e w' => e = .returned (.bool (decide (l = m))) ∧ Below w.heap.size w w' := by
  have Hr := Lib.hid hr
  have Hs := Lib.hid hs
  clear hr hs
  by_cases hlm : l.length = m.length
  · have Hlm := Lib.hid hlm
    have hb : ((l.length : Int) != (m.length : Int)) = false := by simp [hlm]
    generalize hn : m.length = n at *
    have Hn := Lib.hid hn
    subst hlm
    clear hn
    go_enter Try.func68, Try.ntmps68
    go_wp2_with fail
    clear hb
    go_loopw [13] (fun i wr => ∃ k : Nat, k ≤ l.length ∧ i = .int .i64 k ∧ Hid (∀ j, j < k → l[j]? = m[j]?) ∧ Hid (Below w.heap.size w wr)) (fun i _ => l.length - (intOf i).toNat)
    case atStart => exact ⟨0, by omega, rfl, (fun j hj => by omega), Below.refl _ _⟩
    case round =>
      obtain ⟨k, hk, rfl, Hp, Hb⟩ := hrel
      by_cases hlt : k < l.length
      · have hlm : k < m.length := by rw [Hn.out]; exact hlt
        obtain ⟨ad, rfl, hc⟩ := str_cell (Hr.out.below Hb.out) hlt
        have Hs2 := Lib.hid (show Reads wr 1 B m.length (sts m) from (Hn.out ▸ Hs.out).below Hb.out)
        obtain ⟨bd, rfl, hd⟩ := str_cell Hs2.out hlm
        have e1 : l[k]? = some l[k] := List.getElem?_eq_getElem hlt
        have e2 : m[k]? = some m[k] := List.getElem?_eq_getElem hlm
        generalize l[k] = x at hc e1
        generalize m[k] = y at hd e2
        have E1 := Lib.hid e1
        have E2 := Lib.hid e2
        clear e1 e2 hlm
        by_cases hxy : x = y
        · subst hxy
          go_wp2_with fail
          go_quiet (fail)
          clear hc hd
          go_wp2_with fail
          case roundEnd =>
            refine ⟨⟨k + 1, by omega, by push_cast; rfl, Lib.hid fun j hj => ?_, Lib.hid (Hb.out.trans ⟨rfl, rfl, rfl, Nat.le_refl _, fun _ _ => rfl⟩)⟩, by simp only [intOf]; omega⟩
            by_cases h : j = k
            · subst h; rw [E1.out, E2.out]
            · exact Hp.out j (by omega)
        · have hne : (x.toList == y.toList) = false := by rw [beq_eq_false_iff_ne]; exact fun e => hxy (toList_inj e)
          have Hd : Hid (decide (l = m) = false) := Lib.hid (decide_eq_false fun h => hxy (by have h1 := E1.out; rw [h, E2.out] at h1; exact (Option.some.inj h1).symm))
          clear hxy
          go_wp2_with fail
          go_quiet (fail)
          clear hc hd
          go_wp2_with fail
          go_ret
          exact ⟨by rw [Hd.out]; rfl, Hb.out.trans ⟨rfl, rfl, rfl, Nat.le_refl _, fun _ _ => rfl⟩⟩
      · obtain rfl : k = l.length := by omega
        have Hd : Hid (decide (l = m) = true) := Lib.hid (decide_eq_true (List.ext_getElem? fun j => by
          by_cases h : j < l.length
          · exact Hp.out j h
          · rw [List.getElem?_eq_none (by omega), List.getElem?_eq_none (by rw [Hn.out]; omega)]))
        go_wp2_with fail
        go_ret
        exact ⟨by rw [Hd.out]; rfl, Hb.out⟩
  · have hb : ((l.length : Int) != (m.length : Int)) = true := by rw [bne_iff_ne]; omega
    have Hd : Hid (decide (l = m) = false) := Lib.hid (decide_eq_false fun h => hlm (by rw [h]))
    clear hlm
    go_enter Try.func68, Try.ntmps68
    go_wp2_with fail
    go_ret
    exact ⟨by rw [Hd.out]; rfl, Below.refl _ _⟩

set_option maxHeartbeats 1000000 in
set_option maxRecDepth 100000 in
theorem frameAlike_any (x y : Fr) (A B : Option Addr) (c d : Nat) (w : World) (hr : Reads w 1 A x.l.length (sts x.l)) (hs : Reads w 1 B y.l.length (sts y.l)) (hl : x.l.length ≤ 2000000) :
    Calls Try.prog 39 #[.agg (x.cells A c), .agg (y.cells B d)] w fun e w' => e = .returned (.bool (alikeB x y)) ∧ Below w.heap.size w w' := by
  obtain ⟨hb, hg1, hg2, hsz⟩ := alloc2 w (x.cells A c) 58 (y.cells B d) 58
  have Hb := Lib.hid hb
  have Hg1 := Lib.hid hg1
  have Hg2 := Lib.hid hg2
  have Hr := Lib.hid hr
  have Hs := Lib.hid hs
  have Hq := Lib.hid (eql_plain x y)
  have Hsz := Lib.hid hsz
  clear hb hg1 hg2 hr hs hsz
  go_enter Try.func39, Try.ntmps39
  go_wp2_with fail
  have HD := Lib.hid (show Below w.heap.size w ((w.alloc (.cells (x.cells A c) 58)).alloc (.cells (y.cells B d) 58)).drew from Hb.out.drew)
  have hg1 : ((w.alloc (.cells (x.cells A c) 58)).alloc (.cells (y.cells B d) 58)).drew.heap[w.heap.size]? = some (.cells (x.cells A c) 58 (0, 0)) := Hg1.out
  have hg2 : ((w.alloc (.cells (x.cells A c) 58)).alloc (.cells (y.cells B d) 58)).drew.heap[w.heap.size + 1]? = some (.cells (y.cells B d) 58 (0, 0)) := Hg2.out
  obtain ⟨p0, p1, p2, p3, p4, p5, p6, p7, p8, p9, p10⟩ := frKeeps (M := []) hg1 (by simp)
  obtain ⟨r0, r1, r2, r3, r4, r5, r6, r7, r8, r9, r10⟩ := frKeeps (M := []) hg2 (by simp)
  clear hg1 hg2 Hg1 Hg2 Hsz
  generalize ((w.alloc (.cells (x.cells A c) 58)).alloc (.cells (y.cells B d) 58)) = w1 at *
  clear Hb
  refine wp_region_mix3 (KeepsBut []) (KeepsBut.refl []) (KeepsBut.trans []) [] [(1, 0), (1, 2), (2, 1), (2, 3), (0, 4), (0, 5), (0, 6), (0, 8), (1, 7), (1, 9), (2, 10), (0, 11), (0, 12)] (by kernel_rfl) (by kernel_rfl) (fun d _ _ _ _ h => by cases d <;> exact h) ?_
  repeat ((first | (refine mix3_free (v := ?_) rfl rfl ?_ (mix3_norm (a' := ?_) ?_ ?_); rotate_left; focus (intro w'; go_simp; first | done | (with_reducible rfl))) | (refine mix3_pure (v := ?_) rfl rfl ?_ (mix3_norm (a' := ?_) ?_ ?_); rotate_left; focus (intro w' hR; go_simp; first | done | (with_reducible rfl))) | refine mix3_freeOff rfl rfl (mix3_norm (a' := ?_) ?_ ?_) | refine mix3_off rfl rfl (mix3_norm (a' := ?_) ?_ ?_)); rotate_left; focus (simp only [Act.put, List.getElem_toArray, List.getElem_cons_zero, List.getElem_cons_succ, List.setIfInBounds_toArray, List.set_cons_zero, List.set_cons_succ]; rfl))
  have P10 := Lib.hid p10
  have R10 := Lib.hid r10
  clear p0 p1 p2 p3 p4 p5 p6 p7 p8 p9 p10 r0 r1 r2 r3 r4 r5 r6 r7 r8 r9 r10
  refine mix3_eff rfl ?_
  simp only [List.getElem_toArray, List.getElem_cons_zero, List.getElem_cons_succ]
  go_wp2_with fail
  refine (frameOf_any x A c _).mono ?_
  rintro e w3 ⟨rfl, hb3⟩
  have HK3 := Lib.hid (KeepsBut.of_below (M := []) hb3)
  have HD3 := Lib.hid (HD.out.trans (hb3.mono HD.out.size))
  clear hb3
  go_wp2_with fail
  refine mixQ3_normal HK3.out rfl ?_
  refine mix3_eff rfl ?_
  simp only [List.getElem_toArray, List.getElem_cons_zero, List.getElem_cons_succ]
  go_wp2_with fail
  refine (frameOf_any y B d _).mono ?_
  rintro e w4 ⟨rfl, hb4⟩
  have HK4 := Lib.hid (KeepsBut.of_below (M := []) hb4)
  have HD4 := Lib.hid (HD3.out.trans (hb4.mono HD3.out.size))
  clear hb4
  go_wp2_with fail
  refine mixQ3_normal HK4.out rfl ?_
  have hq := Hq.out
  have q1 := fun w' (hk : KeepsBut [] w4 w') => P10.out w' (((HK3.out.trans _ _ _ _ HK4.out)).trans _ _ _ _ hk)
  have q2 := fun w' (hk : KeepsBut [] w4 w') => R10.out w' (((HK3.out.trans _ _ _ _ HK4.out)).trans _ _ _ _ hk)
  have HE := Lib.hid (equalSt_any A B x.l y.l c d w4 (Hr.out.below HD4.out) (Hs.out.below HD4.out) hl)
  clear HK3 HK4
  cases hpe : plainEq x y with
  | true =>
    rw [hpe] at hq
    have HA := Lib.hid (show alikeB x y = decide (x.l = y.l) by unfold alikeB; rw [hpe]; rfl)
    clear hpe
    repeat ((first | (refine mix3_free (v := ?_) rfl rfl ?_ (mix3_norm (a' := ?_) ?_ ?_); rotate_left; focus (intro w'; go_simp; first | done | (with_reducible rfl))) | (refine mix3_pure (v := ?_) rfl rfl ?_ (mix3_norm (a' := ?_) ?_ ?_); rotate_left; focus (intro w' hR; go_simp; first | done | (with_reducible rfl))) | refine mix3_freeOff rfl rfl (mix3_norm (a' := ?_) ?_ ?_) | refine mix3_off rfl rfl (mix3_norm (a' := ?_) ?_ ?_)); rotate_left; focus (simp only [Act.put, List.getElem_toArray, List.getElem_cons_zero, List.getElem_cons_succ, List.setIfInBounds_toArray, List.set_cons_zero, List.set_cons_succ]; rfl))
    clear q1 q2 hq
    refine mix3_eff rfl ?_
    simp only [List.getElem_toArray, List.getElem_cons_zero, List.getElem_cons_succ]
    go_wp2_with fail
    refine HE.out.mono ?_
    rintro e w5 ⟨rfl, hb5⟩
    have HK5 := Lib.hid (KeepsBut.of_below (M := []) hb5)
    have HD5 := Lib.hid (HD4.out.trans (hb5.mono HD4.out.size))
    clear hb5
    go_wp2_with fail
    refine mixQ3_normal HK5.out rfl ?_
    repeat ((first | (refine mix3_free (v := ?_) rfl rfl ?_ (mix3_norm (a' := ?_) ?_ ?_); rotate_left; focus (intro w'; go_simp; first | done | (with_reducible rfl))) | (refine mix3_pure (v := ?_) rfl rfl ?_ (mix3_norm (a' := ?_) ?_ ?_); rotate_left; focus (intro w' hR; go_simp; first | done | (with_reducible rfl))) | refine mix3_freeOff rfl rfl (mix3_norm (a' := ?_) ?_ ?_) | refine mix3_off rfl rfl (mix3_norm (a' := ?_) ?_ ?_)); rotate_left; focus (simp only [Act.put, List.getElem_toArray, List.getElem_cons_zero, List.getElem_cons_succ, List.setIfInBounds_toArray, List.set_cons_zero, List.set_cons_succ]; rfl))
    refine mix3_done ?_
    go_wp2_with fail
    go_ret
    exact ⟨by rw [HA.out]; rfl, HD5.out⟩
  | false =>
    rw [hpe] at hq
    have HA := Lib.hid (show alikeB x y = false by unfold alikeB; rw [hpe]; rfl)
    clear hpe
    repeat ((first | (refine mix3_free (v := ?_) rfl rfl ?_ (mix3_norm (a' := ?_) ?_ ?_); rotate_left; focus (intro w'; go_simp; first | done | (with_reducible rfl))) | (refine mix3_pure (v := ?_) rfl rfl ?_ (mix3_norm (a' := ?_) ?_ ?_); rotate_left; focus (intro w' hR; go_simp; first | done | (with_reducible rfl))) | refine mix3_freeOff rfl rfl (mix3_norm (a' := ?_) ?_ ?_) | refine mix3_off rfl rfl (mix3_norm (a' := ?_) ?_ ?_)); rotate_left; focus (simp only [Act.put, List.getElem_toArray, List.getElem_cons_zero, List.getElem_cons_succ, List.setIfInBounds_toArray, List.set_cons_zero, List.set_cons_succ]; rfl))
    refine mix3_skip (KeepsBut.refl []) rfl rfl (mix3_norm (a' := ?_) ?_ ?_)
    rotate_left
    focus (simp only [Act.put, List.getElem_toArray, List.getElem_cons_zero, List.getElem_cons_succ, List.setIfInBounds_toArray, List.set_cons_zero, List.set_cons_succ]; rfl)
    repeat ((first | (refine mix3_free (v := ?_) rfl rfl ?_ (mix3_norm (a' := ?_) ?_ ?_); rotate_left; focus (intro w'; go_simp; first | done | (with_reducible rfl))) | (refine mix3_pure (v := ?_) rfl rfl ?_ (mix3_norm (a' := ?_) ?_ ?_); rotate_left; focus (intro w' hR; go_simp; first | done | (with_reducible rfl))) | refine mix3_freeOff rfl rfl (mix3_norm (a' := ?_) ?_ ?_) | refine mix3_off rfl rfl (mix3_norm (a' := ?_) ?_ ?_)); rotate_left; focus (simp only [Act.put, List.getElem_toArray, List.getElem_cons_zero, List.getElem_cons_succ, List.setIfInBounds_toArray, List.set_cons_zero, List.set_cons_succ]; rfl))
    refine mix3_done ?_
    go_wp2_with fail
    go_ret
    exact ⟨by rw [HA.out]; rfl, HD4.out⟩
end Go.Proofs.Ytebcginnnjigjaa

end
section
/- Texts compared: the document's. -/
open Go.RowKit
namespace Go.Proofs.Ytebcginnnjigjaa

theorem str_ne12 {a b : ByteArray} (h : a ≠ b) : ¬ a.toList = b.toList := fun e => h (by
  rw [ByteArray.toList_eq, ByteArray.toList_eq] at e
  obtain ⟨⟨x⟩⟩ := a
  obtain ⟨⟨y⟩⟩ := b
  simp only at e
  rw [e])
set_option maxRecDepth 100000 in
theorem texts12_any (A B : Option Addr) (l m : List ByteArray) (c d : Nat) (w : World) (hr : Reads w 1 A l.length (sts l)) (hs : Reads w 1 B m.length (sts m)) (hl : l.length ≤ 2000000) :
    Calls Try.prog 47 #[.slice A l.length c, .slice B m.length d] w fun e w' => e = .returned (.bool (decide (l = m))) ∧ Below w.heap.size w w' := by
  have Hr := Lib.hid hr
  have Hs := Lib.hid hs
  clear hr hs
  by_cases hlm : l.length = m.length
  · have Hlm := Lib.hid hlm
    have hb : ((l.length : Int) != (m.length : Int)) = false := by simp [hlm]
    generalize hn : m.length = n at *
    have Hn := Lib.hid hn
    subst hlm
    clear hn
    go_enter Try.func47, Try.ntmps47
    go_wp2_with fail
    clear hb
    go_loopw [5] (fun i wr => ∃ k : Nat, k ≤ l.length ∧ i = .int .i64 k ∧ Hid (∀ j, j < k → l[j]? = m[j]?) ∧ Hid (Below w.heap.size w wr)) (fun i _ => l.length - (intOf i).toNat)
    case atStart => exact ⟨0, by omega, rfl, (fun j hj => by omega), Below.refl _ _⟩
    case round =>
      obtain ⟨k, hk, rfl, Hp, Hb⟩ := hrel
      by_cases hlt : k < l.length
      · have hlm : k < m.length := by rw [Hn.out]; exact hlt
        obtain ⟨ad, rfl, hc⟩ := str_cell (Hr.out.below Hb.out) hlt
        have Hs2 := Lib.hid (show Reads wr 1 B m.length (sts m) from (Hn.out ▸ Hs.out).below Hb.out)
        obtain ⟨bd, rfl, hd⟩ := str_cell Hs2.out hlm
        have e1 : l[k]? = some l[k] := List.getElem?_eq_getElem hlt
        have e2 : m[k]? = some m[k] := List.getElem?_eq_getElem hlm
        generalize l[k] = x at hc e1
        generalize m[k] = y at hd e2
        have E1 := Lib.hid e1
        have E2 := Lib.hid e2
        clear e1 e2 hlm
        by_cases hxy : x = y
        · subst hxy
          go_wp2_with fail
          go_quiet (fail)
          clear hc hd
          go_wp2_with fail
          case roundEnd =>
            refine ⟨⟨k + 1, by omega, by push_cast; rfl, Lib.hid fun j hj => ?_, Lib.hid (Hb.out.trans ⟨rfl, rfl, rfl, Nat.le_refl _, fun _ _ => rfl⟩)⟩, by simp only [intOf]; omega⟩
            by_cases h : j = k
            · subst h; rw [E1.out, E2.out]
            · exact Hp.out j (by omega)
        · have hne : (x.toList == y.toList) = false := by rw [beq_eq_false_iff_ne]; exact str_ne12 hxy
          have Hd : Hid (decide (l = m) = false) := Lib.hid (decide_eq_false fun h => hxy (by have h1 := E1.out; rw [h, E2.out] at h1; exact (Option.some.inj h1).symm))
          clear hxy
          go_wp2_with fail
          go_quiet (fail)
          clear hc hd
          go_wp2_with fail
          go_ret
          exact ⟨by rw [Hd.out]; rfl, Hb.out.trans ⟨rfl, rfl, rfl, Nat.le_refl _, fun _ _ => rfl⟩⟩
      · obtain rfl : k = l.length := by omega
        have Hd : Hid (decide (l = m) = true) := Lib.hid (decide_eq_true (List.ext_getElem? fun j => by
          by_cases h : j < l.length
          · exact Hp.out j h
          · rw [List.getElem?_eq_none (by omega), List.getElem?_eq_none (by rw [Hn.out]; omega)]))
        go_wp2_with fail
        go_ret
        exact ⟨by rw [Hd.out]; rfl, Hb.out⟩
  · have hb : ((l.length : Int) != (m.length : Int)) = true := by rw [bne_iff_ne]; omega
    have Hd : Hid (decide (l = m) = false) := Lib.hid (decide_eq_false fun h => hlm (by rw [h]))
    clear hlm
    go_enter Try.func47, Try.ntmps47
    go_wp2_with fail
    go_ret
    exact ⟨by rw [Hd.out]; rfl, Below.refl _ _⟩
end Go.Proofs.Ytebcginnnjigjaa

end
