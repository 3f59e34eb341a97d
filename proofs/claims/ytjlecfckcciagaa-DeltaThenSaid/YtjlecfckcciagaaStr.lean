/- Rows of strings, rows of puts. -/
import Derived.Test.YtjlecfckcciagaaPk
import Derived.Laws.StructEq
import Derived.ChangeKeysEq
import Derived.Deep.QuietTactic
import Derived.BigQuiet
open Go.RowKit
namespace Go.Proofs.Ytjlecfckcciagaa

def sts (l : List ByteArray) : List Value := l.map .string
theorem sts_length (l : List ByteArray) : (sts l).length = l.length := by simp [sts]
theorem sts_append (a b : List ByteArray) : sts (a ++ b) = sts a ++ sts b := by simp [sts]
theorem sts_get (l : List ByteArray) (k : Nat) (hk : k < l.length) : (sts l)[k]? = some (.string l[k]) := by simp [sts, hk]
theorem sts_set (l : List ByteArray) (k : Nat) (s : ByteArray) : (sts l).set k (.string s) = sts (l.set k s) := by simp [sts, List.map_set]
theorem oneCell_sts (l : List ByteArray) : ∀ u ∈ sts l, u.oneCell' = true := by
  intro u hu
  simp only [sts, List.mem_map] at hu
  obtain ⟨s, _, rfl⟩ := hu
  rfl
theorem info_st : (Try.prog.info? 9).map (fun i => (i.zero, i.size, i.bytes)) = some (some (.string ⟨#[]⟩), 1, 16) := by kernel_rfl
theorem info_put : (Try.prog.info? 35).map (fun i => (i.zero, i.size, i.bytes)) = some (some (.agg #[.int .i64 0, .string ⟨#[]⟩]), 2, 24) := by kernel_rfl

/-- A row of strings of its own. -/
def SRow (w : World) (A : Option Addr) (c : Nat) (l : List ByteArray) : Prop := w.ownsRow 0 9 1 (.slice A l.length c) l.length (sts l)
/-- A row of puts of its own. -/
def URow (w : World) (A : Option Addr) (c : Nat) (l : List (Int × ByteArray)) : Prop := w.ownsRow 0 35 2 (.slice A l.length c) l.length (pks l)
section
variable {w w1 : World} {A : Option Addr} {c : Nat} {l : List ByteArray} {ps : List (Int × ByteArray)}
theorem SRow.nil (w : World) : SRow w none 0 [] := own_nil w 0 _ 1
theorem URow.nil (w : World) : URow w none 0 [] := own_nil w 0 _ 2
theorem SRow.reads (h : SRow w A c l) : Reads w 1 A l.length (sts l) := Reads.of_own h
theorem URow.reads (h : URow w A c ps) : Reads w 2 A ps.length (pks ps) := Reads.of_own h
theorem SRow.lt (h : SRow w A c l) {k : Nat} (hk : blk A = some k) : k < w.heap.size := (World.ownsRow.lt h k (by rw [ownBlock_slice]; exact hk)).2
theorem URow.lt (h : URow w A c ps) {k : Nat} (hk : blk A = some k) : k < w.heap.size := (World.ownsRow.lt h k (by rw [ownBlock_slice]; exact hk)).2
theorem SRow.chg {F : Nat → Prop} (h : SRow w A c l) (hc : Chg F w w1) (hF : ∀ k, blk A = some k → ¬ F k) : SRow w1 A c l := ownsRow_chg h hc (fun k hk => hF k (by rw [ownBlock_slice] at hk; exact hk))
theorem URow.chg {F : Nat → Prop} (h : URow w A c ps) (hc : Chg F w w1) (hF : ∀ k, blk A = some k → ¬ F k) : URow w1 A c ps := ownsRow_chg h hc (fun k hk => hF k (by rw [ownBlock_slice] at hk; exact hk))
theorem SRow.below (h : SRow w A c l) (hb : Below w.heap.size w w1) : SRow w1 A c l := h.chg (F := fun _ => False) (.of_below hb) (fun _ _ f => f)
theorem URow.below (h : URow w A c ps) (hb : Below w.heap.size w w1) : URow w1 A c ps := h.chg (F := fun _ => False) (.of_below hb) (fun _ _ f => f)
theorem SRow.form (h : SRow w A c l) (h0 : 0 < l.length) : ∃ g, A = some ⟨g, 0, none⟩ ∧ g < w.heap.size := by
  obtain ⟨g, cap, hv, _, hlt⟩ := World.ownsRow.form h h0
  injection hv with hA
  exact ⟨g, hA, hlt⟩
/-- One cell of a row of strings is written. -/
theorem SRow.set {b : Nat} (h : SRow w (some ⟨b, 0, none⟩) c l) (k : Nat) (s : ByteArray) : SRow (w.setCell ⟨b, k, none⟩ (.string s)) (some ⟨b, 0, none⟩) c (l.set k s) := by
  have h1 := (World.ownsRow.stored h k (.string s)).1
  rw [sts_set] at h1
  unfold SRow
  rw [List.length_set]
  exact h1
theorem SRow.fresh (w : World) : SRow (w.alloc (.cells #[] 9)) (some ⟨w.heap.size, 0, none⟩) 0 [] :=
  ⟨rfl, .inr ⟨w.heap.size, 0, #[], rfl, Nat.zero_le _, heap_alloc_new _ _, Nat.le_refl _, Nat.zero_le _, rfl, rfl⟩⟩
theorem str_cell (h : Reads w 1 A l.length (sts l)) {k : Nat} (hk : k < l.length) : ∃ ad : Addr, A = some ad ∧ w.cell? (ad.add k) = some (.string l[k]) := by
  obtain ⟨ad, rfl, hc⟩ := h.2 (by omega)
  exact ⟨ad, rfl, hc _ _ (sts_get l k hk)⟩
theorem addr_one (a : Addr) (n : Nat) : (⟨(a.add n).block, (a.add n).off + 1, none⟩ : Addr) = a.add (n + 1) := by
  unfold Addr.add
  by_cases hn : n = 0
  · subst hn; rfl
  · simp [hn, Nat.add_assoc]
theorem put_cells (h : Reads w 2 A ps.length (pks ps)) {k : Nat} (hk : k < ps.length) : ∃ ad : Addr, A = some ad ∧ w.cell? (ad.add (k * 2)) = some (.int .i64 ps[k].1) ∧ w.cell? ⟨(ad.add (k * 2)).block, (ad.add (k * 2)).off + 1, none⟩ = some (.string ps[k].2) := by
  obtain ⟨ad, rfl, hc⟩ := h.2 (by omega)
  refine ⟨ad, rfl, hc _ _ (pks_get0 ps k hk), ?_⟩
  rw [addr_one]
  exact hc _ _ (pks_get1 ps k hk)
end

theorem wpList_append_st {w : World} {ops : Array Oper} {rest : List Oper} {o : Oper} {a : Act} {Q : Exit → Act → World → Prop} (hgd : o.guard = none) (s x : Operand)
    (ho : o.op = .call { callee := .builtin .append, args := #[s, x], argTypes := #[22, 22] })
    (A : Option Addr) (c : Nat) (ps : List ByteArray) (hs : a.eval s = .slice A ps.length c) (hrow : SRow w A c ps)
    (A' : Option Addr) (c' : Nat) (qs : List ByteArray) (m : Nat) (hm : qs.length = m) (hx : a.eval x = .slice A' m c') (hr : Reads w 1 A' m (sts qs)) (hlen : ps.length + m ≤ 100000)
    (h : ∀ A1 c1 w1, SRow w1 A1 c1 (ps ++ qs) → Chg (fun i => blk A = some i) w w1 → (∀ k, blk A1 = some k → blk A = some k ∨ k = w.heap.size) → wpList Try.prog ops Q rest (a.put o.dst (.slice A1 (ps ++ qs).length c1)) w1) : wpList Try.prog ops Q (o :: rest) a w := by
  obtain ⟨i0, hi, hz0, hz1, hz2⟩ := info_parts info_st
  subst hm
  refine wpList_append_any w hgd s x 22 ho 0 9 i0 _ 1 16 Try.underlying22 hi hz0 hz1 hz2 rfl (by omega) _ _ _ hs hrow A' _ c' _ hx hr (oneCell_sts _) (by unfold maxLen; omega) (by omega) (Nat.zero_le _) ?_
  intro v' w' h1 h2 h3
  obtain ⟨A1, c1, rfl, _⟩ := own_slice h1
  rw [ownBlock_slice] at h2
  have hl : ps.length + qs.length = (ps ++ qs).length := by simp
  rw [← sts_append, hl] at h1
  rw [hl]
  refine h A1 c1 w' h1 ⟨h2.os, h2.tape, h2.output, h2.size, fun i hi hF => h2.block i hi (fun e => hF e.symm)⟩ fun k hk => ?_
  rw [ownBlock_slice, ownBlock_slice] at h3
  rcases h3 with h3 | h3
  · exact .inl (h3 ▸ hk)
  · rw [hk] at h3; exact .inr (Option.some.inj h3)
theorem wpList_append_put {w : World} {ops : Array Oper} {rest : List Oper} {o : Oper} {a : Act} {Q : Exit → Act → World → Prop} (hgd : o.guard = none) (s x : Operand)
    (ho : o.op = .call { callee := .builtin .append, args := #[s, x], argTypes := #[23, 23] })
    (A : Option Addr) (c : Nat) (ps : List (Int × ByteArray)) (hs : a.eval s = .slice A ps.length c) (hrow : URow w A c ps)
    (A' : Option Addr) (c' : Nat) (qs : List (Int × ByteArray)) (m : Nat) (hm : qs.length = m) (hx : a.eval x = .slice A' m c') (hr : Reads w 2 A' m (pks qs)) (hlen : ps.length + m ≤ 100000)
    (h : ∀ A1 c1 w1, URow w1 A1 c1 (ps ++ qs) → Chg (fun i => blk A = some i) w w1 → (∀ k, blk A1 = some k → blk A = some k ∨ k = w.heap.size) → wpList Try.prog ops Q rest (a.put o.dst (.slice A1 (ps ++ qs).length c1)) w1) : wpList Try.prog ops Q (o :: rest) a w := by
  obtain ⟨i0, hi, hz0, hz1, hz2⟩ := info_parts info_put
  subst hm
  refine wpList_append_any w hgd s x 23 ho 0 35 i0 _ 2 24 Try.underlying23 hi hz0 hz1 hz2 rfl (by omega) _ _ _ hs hrow A' _ c' _ hx hr (oneCell_pks _) (by unfold maxLen; omega) (by omega) (Nat.zero_le _) ?_
  intro v' w' h1 h2 h3
  obtain ⟨A1, c1, rfl, _⟩ := own_slice h1
  rw [ownBlock_slice] at h2
  have hl : ps.length + qs.length = (ps ++ qs).length := by simp
  rw [← pks_append, hl] at h1
  rw [hl]
  refine h A1 c1 w' h1 ⟨h2.os, h2.tape, h2.output, h2.size, fun i hi hF => h2.block i hi (fun e => hF e.symm)⟩ fun k hk => ?_
  rw [ownBlock_slice, ownBlock_slice] at h3
  rcases h3 with h3 | h3
  · exact .inl (h3 ▸ hk)
  · rw [hk] at h3; exact .inr (Option.some.inj h3)

/-! ### sectors that can be -/
def rightS (s : ByteArray) : Bool := decide (s.size = 64)
theorem rightS_is (s : ByteArray) : ((s.size : Int) == 64) = rightS s := by
  unfold rightS
  rw [Bool.eq_iff_iff, beq_iff_eq, decide_eq_true_iff]
  omega
theorem secRight_any (s : ByteArray) (w : World) : Calls Try.prog 23 #[.string s] w fun e w' => e = .returned (.bool (rightS s)) ∧ w = w' := by
  have H := rightS_is s
  go_enter Try.func23, Try.ntmps23
  go_wp2_with fail
  go_ret
  exact ⟨rfl, rfl⟩
end Go.Proofs.Ytjlecfckcciagaa
