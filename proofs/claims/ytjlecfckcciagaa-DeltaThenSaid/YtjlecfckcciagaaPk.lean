/- Packets in rows; nets in memory; what changes. -/
import Derived.Test.YtjlecfckcciagaaBoxes
import Derived.Test.YtjlecfckcciagaaMix3
import Derived.Test.YtjlecfckcciagaaKeep
import Derived.Test.YtjlecfckcciagaaConv
import Derived.Deep.DeepAppendRoom
open Go.RowKit
namespace Go.Proofs.Ytjlecfckcciagaa

/-! ### what may change -/
/-- From w to w' nothing turned but blocks of F, and new ones. -/
structure Chg (F : Nat → Prop) (w w' : World) : Prop where
  os : w'.os = w.os
  tape : w'.tape = w.tape
  output : w'.output = w.output
  size : w.heap.size ≤ w'.heap.size
  block : ∀ k, k < w.heap.size → ¬ F k → w'.heap[k]? = w.heap[k]?
section
variable {F G : Nat → Prop} {w w1 w2 : World}
theorem Chg.refl (F : Nat → Prop) (w : World) : Chg F w w := ⟨rfl, rfl, rfl, Nat.le_refl _, fun _ _ _ => rfl⟩
theorem Chg.trans (h : Chg F w w1) (k : Chg G w1 w2) (hG : ∀ i, i < w.heap.size → G i → F i) : Chg F w w2 :=
  ⟨k.os.trans h.os, k.tape.trans h.tape, k.output.trans h.output, Nat.le_trans h.size k.size, fun i hi hF => (k.block i (Nat.lt_of_lt_of_le hi h.size) (fun g => hF (hG i hi g))).trans (h.block i hi hF)⟩
theorem Chg.mono (h : Chg F w w1) (hG : ∀ i, i < w.heap.size → F i → G i) : Chg G w w1 := ⟨h.os, h.tape, h.output, h.size, fun i hi hF => h.block i hi (fun g => hF (hG i hi g))⟩
theorem Chg.of_below (h : Below w.heap.size w w1) : Chg F w w1 := ⟨h.os, h.tape, h.output, h.size, fun i hi _ => h.block i hi⟩
theorem Chg.of_grown {o : Option Nat} (h : w.grownBy w1 o) : Chg (fun i => some i = o) w w1 := ⟨h.os, h.tape, h.output, h.size, fun i hi hF => h.block i hi hF⟩
theorem Chg.drew (h : Chg F w w1) : Chg F w w1.drew := ⟨h.os, h.tape, h.output, h.size, h.block⟩
theorem Chg.alloc (h : Chg F w w1) (o : Obj) : Chg F w (w1.alloc o) := h.trans (G := F) (.of_below ((Below.refl _ _).alloc (Nat.le_refl _) o)) (fun _ _ h => h)
theorem Chg.set (h : Chg F w w1) (g k : Nat) (v : Value) (hg : g < w.heap.size → F g) : Chg F w (w1.setCell ⟨g, k, none⟩ v) :=
  h.trans (G := fun i => i = g) ⟨rfl, rfl, rfl, by rw [size_set]; exact Nat.le_refl _, fun i hi hne => heap_setCell_other _ _ _ _ hne⟩ (fun i hi e => e ▸ hg (e ▸ hi))
theorem Chg.below (h : Chg F w w1) {B : Nat} (hF : ∀ i, i < B → ¬ F i) (hB : B ≤ w.heap.size) : Below B w w1 := ⟨h.os, h.tape, h.output, h.size, fun i hi => h.block i (Nat.lt_of_lt_of_le hi hB) (hF i hi)⟩
theorem Chg.keeps {M : List Nat} (h : Chg F w w1) (hM : ∀ i, i < w.heap.size → F i → i ∈ M) : KeepsBut M w w1 := ⟨h.size, fun i hi hm => h.block i hi (fun f => hm (hM i hi f))⟩
end

/-! ### rows whose elements are of several cells -/
def blk (A : Option Addr) : Option Nat := A.map (·.block)
theorem blk_some (a : Addr) : blk (some a) = some a.block := rfl
theorem ownBlock_slice (A : Option Addr) (n c : Nat) : (Value.slice A n c).ownBlock = blk A := by cases A <;> rfl

/-- A packet's cells. -/
def pk (p : Int × ByteArray) : List Value := [.int .i64 p.1, .string p.2]
def pks (ps : List (Int × ByteArray)) : List Value := ps.flatMap pk
theorem pks_nil : pks [] = [] := rfl
theorem pks_cons (p : Int × ByteArray) (ps : List (Int × ByteArray)) : pks (p :: ps) = .int .i64 p.1 :: .string p.2 :: pks ps := rfl
theorem pks_append (a b : List (Int × ByteArray)) : pks (a ++ b) = pks a ++ pks b := by simp [pks]
theorem pks_length (ps : List (Int × ByteArray)) : (pks ps).length = ps.length * 2 := by
  induction ps with
  | nil => rfl
  | cons p ps ih => rw [pks_cons]; simp [ih]; omega
theorem pks_get0 (ps : List (Int × ByteArray)) : ∀ (k : Nat) (hk : k < ps.length), (pks ps)[k * 2]? = some (.int .i64 ps[k].1) := by
  induction ps with
  | nil => intro k hk; simp at hk
  | cons p ps ih =>
    intro k hk
    cases k with
    | zero => rfl
    | succ k => rw [pks_cons, show (k + 1) * 2 = k * 2 + 1 + 1 by omega, List.getElem?_cons_succ, List.getElem?_cons_succ]; exact ih k (by simpa using hk)
theorem pks_get1 (ps : List (Int × ByteArray)) : ∀ (k : Nat) (hk : k < ps.length), (pks ps)[k * 2 + 1]? = some (.string ps[k].2) := by
  induction ps with
  | nil => intro k hk; simp at hk
  | cons p ps ih =>
    intro k hk
    cases k with
    | zero => rfl
    | succ k => rw [pks_cons, show (k + 1) * 2 + 1 = k * 2 + 1 + 1 + 1 by omega, List.getElem?_cons_succ, List.getElem?_cons_succ]; exact ih k (by simpa using hk)
theorem pks_take (ps : List (Int × ByteArray)) : ∀ k : Nat, (pks ps).take (k * 2) = pks (ps.take k) := by
  induction ps with
  | nil => intro k; simp [pks]
  | cons p ps ih =>
    intro k
    cases k with
    | zero => rfl
    | succ k => rw [pks_cons, show (k + 1) * 2 = k * 2 + 1 + 1 by omega, List.take_succ_cons, List.take_succ_cons, List.take_succ_cons, pks_cons, ih]
theorem pks_drop (ps : List (Int × ByteArray)) : ∀ k : Nat, (pks ps).drop (k * 2) = pks (ps.drop k) := by
  induction ps with
  | nil => intro k; simp [pks]
  | cons p ps ih =>
    intro k
    cases k with
    | zero => rfl
    | succ k => rw [pks_cons, show (k + 1) * 2 = k * 2 + 1 + 1 by omega, List.drop_succ_cons, List.drop_succ_cons, List.drop_succ_cons, ih]
theorem pks_set1 (ps : List (Int × ByteArray)) : ∀ (k : Nat) (hk : k < ps.length) (b : ByteArray), (pks ps).set (k * 2 + 1) (.string b) = pks (ps.set k (ps[k].1, b)) := by
  induction ps with
  | nil => intro k hk; simp at hk
  | cons p ps ih =>
    intro k hk b
    cases k with
    | zero => rfl
    | succ k =>
      rw [pks_cons, show (k + 1) * 2 + 1 = k * 2 + 1 + 1 + 1 by omega, List.set_cons_succ, List.set_cons_succ, List.set_cons_succ, pks_cons]
      congr 2
      exact ih k (by simpa using hk) b
theorem pks_set0 (ps : List (Int × ByteArray)) : ∀ (k : Nat) (hk : k < ps.length), (pks ps).set (k * 2) (.int .i64 ps[k].1) = pks ps := by
  intro k hk
  apply List.ext_getElem?
  intro j
  rw [List.getElem?_set]
  by_cases h : k * 2 = j
  · subst h
    rw [pks_get0 ps k hk, if_pos rfl, if_pos (by rw [pks_length]; omega)]
  · rw [if_neg h]
theorem oneCell_pks (ps : List (Int × ByteArray)) : ∀ u ∈ pks ps, u.oneCell' = true := by
  intro u hu
  simp only [pks, List.mem_flatMap, pk] at hu
  obtain ⟨p, _, hu⟩ := hu
  simp at hu
  rcases hu with rfl | rfl <;> rfl
section
variable {w w1 : World}
theorem ownsRow_chg {base : Nat} {e : TypeId} {size n : Nat} {v : Value} {xs : List Value} {F : Nat → Prop} (h : w.ownsRow base e size v n xs) (hc : Chg F w w1) (hF : ∀ k, v.ownBlock = some k → ¬ F k) : w1.ownsRow base e size v n xs := by
  refine ⟨h.1, ?_⟩
  rcases h.2 with hn | ⟨g, cap, cur, rfl, hb, hg, rest⟩
  · exact .inl hn
  · refine .inr ⟨g, cap, cur, rfl, hb, ?_, rest⟩
    rw [hc.block g (Array.getElem?_eq_some_iff.1 hg).1 (hF g rfl)]
    exact hg
end
end Go.Proofs.Ytjlecfckcciagaa
