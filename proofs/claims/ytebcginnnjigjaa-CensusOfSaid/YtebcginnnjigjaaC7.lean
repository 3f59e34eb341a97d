import Derived.Test.YtebcginnnjigjaaC5
import Derived.Laws.ResultCell
import Derived.Deep.WholeRow
section
/- A row of one-cell values of the call's own; one more value appended. -/
open Go.RowKit
namespace Go.Proofs.Ytebcginnnjigjaa

/-- What a type's row of one-cell values needs. -/
structure Cell1 (P : Program) (t e : TypeId) (z : Value) (by_ : Nat) : Prop where
  slice : P.underlying t = some (.slice e)
  info : (P.info? e).map (fun i => (i.zero, i.size, i.bytes)) = some (some z, 1, by_)
  zero : z.cells.size = 1
  small : by_ ≤ 16

def OwnV (w : World) (base : Nat) (e : TypeId) (A : Option Addr) (c : Nat) (xs : List Value) : Prop := w.ownsRow base e 1 (.slice A xs.length c) xs.length xs
section
variable {w w1 : World} {base c : Nat} {e : TypeId} {A : Option Addr} {xs : List Value}
theorem OwnV.reads (h : OwnV w base e A c xs) : Reads w 1 A xs.length xs := Reads.of_own h
theorem OwnV.nil (w : World) (base : Nat) (e : TypeId) : OwnV w base e none 0 [] := own_nil w base e 1
theorem OwnV.below (h : OwnV w base e A c xs) (hb : Below w.heap.size w w1) : OwnV w1 base e A c xs := own_below h hb
theorem OwnV.alloc (h : OwnV w base e A c xs) (o : Obj) : OwnV (w.alloc o) base e A c xs := World.ownsRow.alloc h o
theorem OwnV.cap (h : OwnV w base e A c xs) : xs.length ≤ c := by
  obtain ⟨A', c', he, hc⟩ := own_slice h
  injection he with _ _ h3
  subst h3; exact hc
theorem OwnV.max (h : OwnV w base e A c xs) : xs.length ≤ maxLen := by
  rcases h.2 with ⟨_, h0⟩ | ⟨g', cap', cur, he, _, _, h1, h2, _⟩
  · rw [h0]; exact Nat.zero_le _
  · exact Nat.le_trans h1 h2
theorem OwnV.form (h : OwnV w base e A c xs) (h0 : 0 < xs.length) : ∃ g, A = some ⟨g, 0, none⟩ ∧ base ≤ g ∧ g < w.heap.size := by
  obtain ⟨g, cap, hv, hb, hlt⟩ := World.ownsRow.form h h0
  injection hv with hA
  exact ⟨g, hA, hb, hlt⟩
theorem OwnV.cell {g : Nat} (h : OwnV w base e (some ⟨g, 0, none⟩) c xs) {k : Nat} (hk : k < xs.length) : w.cell? ⟨g, k, none⟩ = some xs[k] := by
  rw [World.ownsRow.cellAt h k (by omega)]
  simp [hk]
theorem OwnV.frozen {g : Nat} (h : OwnV w base e (some ⟨g, 0, none⟩) c xs) (k : Nat) : w.frozen? ⟨g, k, none⟩ = false := World.ownsRow.frozenAt h k
theorem OwnV.set {g : Nat} (h : OwnV w base e (some ⟨g, 0, none⟩) c xs) (k : Nat) (v : Value) : OwnV (w.setCell ⟨g, k, none⟩ v) base e (some ⟨g, 0, none⟩) c (xs.set k v) := by
  have h1 := (World.ownsRow.stored h k v).1
  unfold OwnV
  rw [List.length_set]
  exact h1
theorem OwnV.mono {b2 : Nat} (h : OwnV w base e A c xs) (hb : b2 ≤ base) : OwnV w b2 e A c xs := by
  refine ⟨h.1, ?_⟩
  rcases h.2 with h0 | ⟨g, cap, cur, h1, h2, h3⟩
  · exact .inl h0
  · exact .inr ⟨g, cap, cur, h1, Nat.le_trans hb h2, h3⟩
/-- Kept while only what is made behind it, or a row that stands beside it, is written. -/
theorem OwnV.keepG {g : Nat} (h : OwnV w base e A c xs) (hk : w.grownBy w1 (some g)) (hg : g < base) : OwnV w1 base e A c xs :=
  World.ownsRow.kept h hk (by
    cases hb : (Value.slice A xs.length c).ownBlock with
    | none => simp
    | some k => exact .inr (fun e => by injection e with e; have := own_base h k hb; omega))
end

section
variable {P : Program}
theorem wpList_append_row {t e : TypeId} {z : Value} {by_ : Nat} (C : Cell1 P t e z by_) {w : World} {ops : Array Oper} {rest : List Oper} {o : Oper} {a : Act} {Q : Exit → Act → World → Prop} (w0 : World) (base : Nat) (hgd : o.guard = none) (s x : Operand)
    (ho : o.op = .call { callee := .builtin .append, args := #[s, x], argTypes := #[t, t] })
    (A : Option Addr) (n c : Nat) (xs : List Value) (hn : xs.length = n) (hs : a.eval s = .slice A n c) (hown : OwnV w base e A c xs)
    (A' : Option Addr) (m c' : Nat) (ys : List Value) (hx : a.eval x = .slice A' m c') (hr : Reads w 1 A' m ys) (h1 : ∀ u ∈ ys, u.oneCell' = true)
    (hlen : n + m ≤ 8796093022208) (hbel : Below base w0 w) (hbase : base ≤ w.heap.size)
    (h : ∀ A1 c1 w1, OwnV w1 base e A1 c1 (xs ++ ys) → Below base w0 w1 → base ≤ w1.heap.size → wpList P ops Q rest (a.put o.dst (.slice A1 (n + m) c1)) w1) : wpList P ops Q (o :: rest) a w := by
  obtain ⟨i0, hi, hz0, hz1, hz2⟩ := info_parts C.info
  subst hn
  have hsm := C.small
  have hby : (xs.length + m) * by_ ≤ 140737488355328 := Nat.le_trans (Nat.mul_le_mul hlen hsm) (by decide)
  refine wpList_append_any w hgd s x t ho base e i0 _ 1 _ C.slice hi hz0 hz1 hz2 C.zero (by omega) _ _ _ hs hown A' _ c' _ hx hr h1 (by unfold maxLen; omega) hby hbase ?_
  intro v' w' h1 h2 h3
  obtain ⟨A1, c1, rfl, _⟩ := own_slice h1
  have hm : ys.length = m := by have := hr.1; omega
  have h4 : OwnV w' base e A1 c1 (xs ++ ys) := by unfold OwnV; rw [List.length_append, hm]; exact h1
  exact h A1 c1 w' h4 (hbel.grown h2 hbase (own_base hown)) (Nat.le_trans hbase h2.size)
theorem results_cell_tmp_row {fn : Func} {p u : Tmp} {ty : TypeId} (h : fn.results = #[.cell p ty, .tmp u]) (tmps : Array Value) (w : World) (g : Nat) (t : TypeId) (cs : Array Value) (fr : Nat × Nat) (d : TypeDesc)
    (hp : tmps.getD p undef = .pointer (some ⟨g, 0, none⟩)) (hg : w.heap[g]? = some (.cells cs t fr))
    (hu : P.underlying ty = some d) (hd : (match d with | .struct _ | .array _ _ => true | _ => false) = true) (hi : (P.info? ty).map (·.size) = some cs.size) :
    (results fn tmps).run P w = .ok (.tuple #[.agg cs, tmps.getD u undef]) w := by
  rw [results_cell_tmp h, hp]
  simp [asAddr, run_loadVar_row w g t ty cs fr d hg hu hd hi]
/-- One value more: 'append(s, v)' behind its box. -/
theorem Reads.box (w : World) (v : Value) (t : TypeId) : Reads (w.alloc (.cells #[v] t)) 1 (some ⟨w.heap.size, 0, none⟩) 1 [v] := Reads.of_block (n := 1) (heap_alloc_new _ _) rfl
theorem size_alloc (w : World) (o : Obj) : (w.alloc o).heap.size = w.heap.size + 1 := by show (w.heap.push _).size = _; rw [Array.size_push]
end
end Go.Proofs.Ytebcginnnjigjaa

end
section
/- Blocks that are made one after another; blocks of a few cells. -/
open Go.RowKit
namespace Go.Proofs.Ytebcginnnjigjaa

section
variable (w : World)
theorem alloc1 (c1 : Array Value) (t1 : TypeId) :
    Below w.heap.size w (w.alloc (.cells c1 t1)) ∧ (w.alloc (.cells c1 t1)).heap[w.heap.size]? = some (.cells c1 t1 (0, 0)) ∧ (w.alloc (.cells c1 t1)).heap.size = w.heap.size + 1 :=
  ⟨(Below.refl _ _).alloc (Nat.le_refl _) _, heap_alloc_new _ _, size_alloc _ _⟩
theorem alloc2 (c1 : Array Value) (t1 : TypeId) (c2 : Array Value) (t2 : TypeId) :
    Below w.heap.size w ((w.alloc (.cells c1 t1)).alloc (.cells c2 t2)) ∧ ((w.alloc (.cells c1 t1)).alloc (.cells c2 t2)).heap[w.heap.size]? = some (.cells c1 t1 (0, 0)) ∧
      ((w.alloc (.cells c1 t1)).alloc (.cells c2 t2)).heap[w.heap.size + 1]? = some (.cells c2 t2 (0, 0)) ∧ ((w.alloc (.cells c1 t1)).alloc (.cells c2 t2)).heap.size = w.heap.size + 2 := by
  have h2 := heap_alloc_new (w.alloc (.cells c1 t1)) (.cells c2 t2)
  rw [size_alloc] at h2
  exact ⟨((Below.refl _ _).alloc (Nat.le_refl _) _).alloc (by rw [size_alloc]; omega) _, (heap_alloc_old _ _ (by rw [size_alloc]; omega)).trans (heap_alloc_new _ _), h2, by rw [size_alloc, size_alloc]⟩
theorem alloc3 (c1 : Array Value) (t1 : TypeId) (c2 : Array Value) (t2 : TypeId) (c3 : Array Value) (t3 : TypeId) :
    Below w.heap.size w (((w.alloc (.cells c1 t1)).alloc (.cells c2 t2)).alloc (.cells c3 t3)) ∧ (((w.alloc (.cells c1 t1)).alloc (.cells c2 t2)).alloc (.cells c3 t3)).heap[w.heap.size]? = some (.cells c1 t1 (0, 0)) ∧
      (((w.alloc (.cells c1 t1)).alloc (.cells c2 t2)).alloc (.cells c3 t3)).heap[w.heap.size + 1]? = some (.cells c2 t2 (0, 0)) ∧ (((w.alloc (.cells c1 t1)).alloc (.cells c2 t2)).alloc (.cells c3 t3)).heap[w.heap.size + 2]? = some (.cells c3 t3 (0, 0)) ∧
      (((w.alloc (.cells c1 t1)).alloc (.cells c2 t2)).alloc (.cells c3 t3)).heap.size = w.heap.size + 3 := by
  obtain ⟨b, h1, h2, hs⟩ := alloc2 w c1 t1 c2 t2
  have h3 := heap_alloc_new ((w.alloc (.cells c1 t1)).alloc (.cells c2 t2)) (.cells c3 t3)
  rw [hs] at h3
  exact ⟨b.alloc (by rw [hs]; omega) _, (heap_alloc_old _ _ (by rw [hs]; omega)).trans h1, (heap_alloc_old _ _ (by rw [hs]; omega)).trans h2, h3, by rw [size_alloc, hs]⟩
theorem alloc4 (c1 : Array Value) (t1 : TypeId) (c2 : Array Value) (t2 : TypeId) (c3 : Array Value) (t3 : TypeId) (c4 : Array Value) (t4 : TypeId) :
    Below w.heap.size w ((((w.alloc (.cells c1 t1)).alloc (.cells c2 t2)).alloc (.cells c3 t3)).alloc (.cells c4 t4)) ∧ ((((w.alloc (.cells c1 t1)).alloc (.cells c2 t2)).alloc (.cells c3 t3)).alloc (.cells c4 t4)).heap[w.heap.size]? = some (.cells c1 t1 (0, 0)) ∧
      ((((w.alloc (.cells c1 t1)).alloc (.cells c2 t2)).alloc (.cells c3 t3)).alloc (.cells c4 t4)).heap[w.heap.size + 1]? = some (.cells c2 t2 (0, 0)) ∧ ((((w.alloc (.cells c1 t1)).alloc (.cells c2 t2)).alloc (.cells c3 t3)).alloc (.cells c4 t4)).heap[w.heap.size + 2]? = some (.cells c3 t3 (0, 0)) ∧
      ((((w.alloc (.cells c1 t1)).alloc (.cells c2 t2)).alloc (.cells c3 t3)).alloc (.cells c4 t4)).heap[w.heap.size + 3]? = some (.cells c4 t4 (0, 0)) ∧ ((((w.alloc (.cells c1 t1)).alloc (.cells c2 t2)).alloc (.cells c3 t3)).alloc (.cells c4 t4)).heap.size = w.heap.size + 4 := by
  obtain ⟨b, h1, h2, h3, hs⟩ := alloc3 w c1 t1 c2 t2 c3 t3
  have h4 := heap_alloc_new (((w.alloc (.cells c1 t1)).alloc (.cells c2 t2)).alloc (.cells c3 t3)) (.cells c4 t4)
  rw [hs] at h4
  exact ⟨b.alloc (by rw [hs]; omega) _, (heap_alloc_old _ _ (by rw [hs]; omega)).trans h1, (heap_alloc_old _ _ (by rw [hs]; omega)).trans h2, (heap_alloc_old _ _ (by rw [hs]; omega)).trans h3, h4, by rw [size_alloc, hs]⟩
end

section
variable {w : World} {g : Nat} {t : TypeId} {cs : Array Value}
theorem cell_at (h : w.heap[g]? = some (.cells cs t (0, 0))) (k : Nat) {v : Value} (hk : cs[k]? = some v) : w.cell? ⟨g, k, none⟩ = some v ∧ w.frozen? ⟨g, k, none⟩ = false :=
  ⟨by rw [cell_of_row _ _ _ _ _ _ h]; exact hk, frozen_of_row _ _ _ _ _ h⟩
theorem cells2 {v0 v1 : Value} (h : w.heap[g]? = some (.cells #[v0, v1] t (0, 0))) :
    w.cell? ⟨g, 0, none⟩ = some v0 ∧ w.cell? ⟨g, 1, none⟩ = some v1 ∧ w.frozen? ⟨g, 0, none⟩ = false ∧ w.frozen? ⟨g, 1, none⟩ = false :=
  ⟨by rw [cell_of_row _ _ _ _ _ _ h]; rfl, by rw [cell_of_row _ _ _ _ _ _ h]; rfl, frozen_of_row _ _ _ _ _ h, frozen_of_row _ _ _ _ _ h⟩
theorem cells1 {v0 : Value} (h : w.heap[g]? = some (.cells #[v0] t (0, 0))) : w.cell? ⟨g, 0, none⟩ = some v0 ∧ w.frozen? ⟨g, 0, none⟩ = false :=
  ⟨by rw [cell_of_row _ _ _ _ _ _ h]; rfl, frozen_of_row _ _ _ _ _ h⟩
theorem cells4 {v0 v1 v2 v3 : Value} (h : w.heap[g]? = some (.cells #[v0, v1, v2, v3] t (0, 0))) :
    (w.cell? ⟨g, 0, none⟩ = some v0 ∧ w.cell? ⟨g, 1, none⟩ = some v1 ∧ w.cell? ⟨g, 2, none⟩ = some v2 ∧ w.cell? ⟨g, 3, none⟩ = some v3) ∧ w.frozen? ⟨g, 0, none⟩ = false ∧ w.frozen? ⟨g, 1, none⟩ = false ∧ w.frozen? ⟨g, 2, none⟩ = false ∧ w.frozen? ⟨g, 3, none⟩ = false :=
  ⟨⟨by rw [cell_of_row _ _ _ _ _ _ h]; rfl, by rw [cell_of_row _ _ _ _ _ _ h]; rfl, by rw [cell_of_row _ _ _ _ _ _ h]; rfl, by rw [cell_of_row _ _ _ _ _ _ h]; rfl⟩, frozen_of_row _ _ _ _ _ h, frozen_of_row _ _ _ _ _ h, frozen_of_row _ _ _ _ _ h, frozen_of_row _ _ _ _ _ h⟩
theorem set2 {v0 v1 : Value} (h : w.heap[g]? = some (.cells #[v0, v1] t (0, 0))) (x y : Value) :
    ((w.setCell ⟨g, 0, none⟩ x).setCell ⟨g, 1, none⟩ y).heap[g]? = some (.cells #[x, y] t (0, 0)) :=
  heap_setCell_same _ g 1 _ _ y (heap_setCell_same w g 0 _ _ x h)
theorem size_set (w : World) (a : Addr) (v : Value) : (w.setCell a v).heap.size = w.heap.size := by simp only [World.setCell, Array.size_modify]
theorem below_set2 {B : Nat} {a w : World} (h : Below B a w) {g : Nat} (hg : B ≤ g) (x y : Value) : Below B a ((w.setCell ⟨g, 0, none⟩ x).setCell ⟨g, 1, none⟩ y) :=
  (h.setCell (p := ⟨g, 0, none⟩) hg x).setCell (p := ⟨g, 1, none⟩) hg y
end
end Go.Proofs.Ytebcginnnjigjaa

end
