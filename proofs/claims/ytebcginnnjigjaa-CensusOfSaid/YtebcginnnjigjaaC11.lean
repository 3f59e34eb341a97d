import Derived.Test.YtebcginnnjigjaaC7
import Derived.Test.YtebcginnnjigjaaC2
import Derived.Test.YtebcginnnjigjaaC10
import Derived.Test.YtebcginnnjigjaaC8
import Derived.Deep.DeepAppendRoom
section
/- Packets in rows; nets in memory; what changes. -/
open Go.RowKit
namespace Go.Proofs.Ytebcginnnjigjaa

/-! ### what may change -/
/-- From w to w' nothing turned but blocks of F, and new ones. -/
structure Chg (F : Nat → Prop) (w w' : World) : Prop where
  os : w'.os = w.os
  tape : w'.tape = w.tape
  output : w'.output = w.output
  size : w.heap.size ≤ w'.heap.size
  block : ∀ k, k < w.heap.size → ¬ F k → w'.heap[k]? = w.heap[k]?
section
variable {F G : Nat → Prop} {w w1 w2 : World}
theorem Chg.refl (F : Nat → Prop) (w : World) : Chg F w w := ⟨rfl, rfl, rfl, Nat.le_refl _, fun _ _ _ => rfl⟩
theorem Chg.trans (h : Chg F w w1) (k : Chg G w1 w2) (hG : ∀ i, i < w.heap.size → G i → F i) : Chg F w w2 :=
  ⟨k.os.trans h.os, k.tape.trans h.tape, k.output.trans h.output, Nat.le_trans h.size k.size, fun i hi hF => (k.block i (Nat.lt_of_lt_of_le hi h.size) (fun g => hF (hG i hi g))).trans (h.block i hi hF)⟩
theorem Chg.mono (h : Chg F w w1) (hG : ∀ i, i < w.heap.size → F i → G i) : Chg G w w1 := ⟨h.os, h.tape, h.output, h.size, fun i hi hF => h.block i hi (fun g => hF (hG i hi g))⟩
theorem Chg.of_below (h : Below w.heap.size w w1) : Chg F w w1 := ⟨h.os, h.tape, h.output, h.size, fun i hi _ => h.block i hi⟩
theorem Chg.of_grown {o : Option Nat} (h : w.grownBy w1 o) : Chg (fun i => some i = o) w w1 := ⟨h.os, h.tape, h.output, h.size, fun i hi hF => h.block i hi hF⟩
theorem Chg.drew (h : Chg F w w1) : Chg F w w1.drew := ⟨h.os, h.tape, h.output, h.size, h.block⟩
theorem Chg.alloc (h : Chg F w w1) (o : Obj) : Chg F w (w1.alloc o) := h.trans (G := F) (.of_below ((Below.refl _ _).alloc (Nat.le_refl _) o)) (fun _ _ h => h)
theorem Chg.set (h : Chg F w w1) (g k : Nat) (v : Value) (hg : g < w.heap.size → F g) : Chg F w (w1.setCell ⟨g, k, none⟩ v) :=
  h.trans (G := fun i => i = g) ⟨rfl, rfl, rfl, by rw [size_set]; exact Nat.le_refl _, fun i hi hne => heap_setCell_other _ _ _ _ hne⟩ (fun i hi e => e ▸ hg (e ▸ hi))
theorem Chg.below (h : Chg F w w1) {B : Nat} (hF : ∀ i, i < B → ¬ F i) (hB : B ≤ w.heap.size) : Below B w w1 := ⟨h.os, h.tape, h.output, h.size, fun i hi => h.block i (Nat.lt_of_lt_of_le hi hB) (hF i hi)⟩
theorem Chg.keeps {M : List Nat} (h : Chg F w w1) (hM : ∀ i, i < w.heap.size → F i → i ∈ M) : KeepsBut M w w1 := ⟨h.size, fun i hi hm => h.block i hi (fun f => hm (hM i hi f))⟩
end

/-! ### rows whose elements are of several cells -/
def blk (A : Option Addr) : Option Nat := A.map (·.block)
theorem blk_some (a : Addr) : blk (some a) = some a.block := rfl
theorem ownBlock_slice (A : Option Addr) (n c : Nat) : (Value.slice A n c).ownBlock = blk A := by cases A <;> rfl

/-- A packet's cells. -/
def pk (p : Int × ByteArray) : List Value := [.int .i64 p.1, .string p.2]
def pks (ps : List (Int × ByteArray)) : List Value := ps.flatMap pk
theorem pks_nil : pks [] = [] := rfl
theorem pks_cons (p : Int × ByteArray) (ps : List (Int × ByteArray)) : pks (p :: ps) = .int .i64 p.1 :: .string p.2 :: pks ps := rfl
theorem pks_append (a b : List (Int × ByteArray)) : pks (a ++ b) = pks a ++ pks b := by simp [pks]
theorem pks_length (ps : List (Int × ByteArray)) : (pks ps).length = ps.length * 2 := by
  induction ps with
  | nil => rfl
  | cons p ps ih => rw [pks_cons]; simp [ih]; omega
theorem pks_get0 (ps : List (Int × ByteArray)) : ∀ (k : Nat) (hk : k < ps.length), (pks ps)[k * 2]? = some (.int .i64 ps[k].1) := by
  induction ps with
  | nil => intro k hk; simp at hk
  | cons p ps ih =>
    intro k hk
    cases k with
    | zero => rfl
    | succ k => rw [pks_cons, show (k + 1) * 2 = k * 2 + 1 + 1 by omega, List.getElem?_cons_succ, List.getElem?_cons_succ]; exact ih k (by simpa using hk)
theorem pks_get1 (ps : List (Int × ByteArray)) : ∀ (k : Nat) (hk : k < ps.length), (pks ps)[k * 2 + 1]? = some (.string ps[k].2) := by
  induction ps with
  | nil => intro k hk; simp at hk
  | cons p ps ih =>
    intro k hk
    cases k with
    | zero => rfl
    | succ k => rw [pks_cons, show (k + 1) * 2 + 1 = k * 2 + 1 + 1 + 1 by omega, List.getElem?_cons_succ, List.getElem?_cons_succ]; exact ih k (by simpa using hk)
theorem pks_take (ps : List (Int × ByteArray)) : ∀ k : Nat, (pks ps).take (k * 2) = pks (ps.take k) := by
  induction ps with
  | nil => intro k; simp [pks]
  | cons p ps ih =>
    intro k
    cases k with
    | zero => rfl
    | succ k => rw [pks_cons, show (k + 1) * 2 = k * 2 + 1 + 1 by omega, List.take_succ_cons, List.take_succ_cons, List.take_succ_cons, pks_cons, ih]
theorem pks_drop (ps : List (Int × ByteArray)) : ∀ k : Nat, (pks ps).drop (k * 2) = pks (ps.drop k) := by
  induction ps with
  | nil => intro k; simp [pks]
  | cons p ps ih =>
    intro k
    cases k with
    | zero => rfl
    | succ k => rw [pks_cons, show (k + 1) * 2 = k * 2 + 1 + 1 by omega, List.drop_succ_cons, List.drop_succ_cons, List.drop_succ_cons, ih]
theorem pks_set1 (ps : List (Int × ByteArray)) : ∀ (k : Nat) (hk : k < ps.length) (b : ByteArray), (pks ps).set (k * 2 + 1) (.string b) = pks (ps.set k (ps[k].1, b)) := by
  induction ps with
  | nil => intro k hk; simp at hk
  | cons p ps ih =>
    intro k hk b
    cases k with
    | zero => rfl
    | succ k =>
      rw [pks_cons, show (k + 1) * 2 + 1 = k * 2 + 1 + 1 + 1 by omega, List.set_cons_succ, List.set_cons_succ, List.set_cons_succ, pks_cons]
      congr 2
      exact ih k (by simpa using hk) b
theorem pks_set0 (ps : List (Int × ByteArray)) : ∀ (k : Nat) (hk : k < ps.length), (pks ps).set (k * 2) (.int .i64 ps[k].1) = pks ps := by
  intro k hk
  apply List.ext_getElem?
  intro j
  rw [List.getElem?_set]
  by_cases h : k * 2 = j
  · subst h
    rw [pks_get0 ps k hk, if_pos rfl, if_pos (by rw [pks_length]; omega)]
  · rw [if_neg h]
theorem oneCell_pks (ps : List (Int × ByteArray)) : ∀ u ∈ pks ps, u.oneCell' = true := by
  intro u hu
  simp only [pks, List.mem_flatMap, pk] at hu
  obtain ⟨p, _, hu⟩ := hu
  simp at hu
  rcases hu with rfl | rfl <;> rfl
section
variable {w w1 : World}
theorem ownsRow_chg {base : Nat} {e : TypeId} {size n : Nat} {v : Value} {xs : List Value} {F : Nat → Prop} (h : w.ownsRow base e size v n xs) (hc : Chg F w w1) (hF : ∀ k, v.ownBlock = some k → ¬ F k) : w1.ownsRow base e size v n xs := by
  refine ⟨h.1, ?_⟩
  rcases h.2 with hn | ⟨g, cap, cur, rfl, hb, hg, rest⟩
  · exact .inl hn
  · refine .inr ⟨g, cap, cur, rfl, hb, ?_, rest⟩
    rw [hc.block g (Array.getElem?_eq_some_iff.1 hg).1 (hF g rfl)]
    exact hg
end
theorem info_pk : (Try.prog.info? 51).map (fun i => (i.zero, i.size, i.bytes)) = some (some (.agg #[.int .i64 0, .string ⟨#[]⟩]), 2, 24) := by kernel_rfl

/-- A row of packets of its own. -/
def PRow (w : World) (A : Option Addr) (c : Nat) (ps : List (Int × ByteArray)) : Prop := w.ownsRow 0 51 2 (.slice A ps.length c) ps.length (pks ps)
section
variable {w w1 : World} {A : Option Addr} {c : Nat} {ps : List (Int × ByteArray)}
theorem PRow.nil (w : World) : PRow w none 0 [] := own_nil w 0 _ 2
theorem PRow.reads (h : PRow w A c ps) : Reads w 2 A ps.length (pks ps) := Reads.of_own h
theorem PRow.cap (h : PRow w A c ps) : ps.length ≤ c := by
  obtain ⟨A', c', he, hc⟩ := own_slice h
  injection he with _ _ h3
  subst h3; exact hc
theorem PRow.lt (h : PRow w A c ps) {k : Nat} (hk : blk A = some k) : k < w.heap.size := (World.ownsRow.lt h k (by rw [ownBlock_slice]; exact hk)).2
theorem PRow.chg {F : Nat → Prop} (h : PRow w A c ps) (hc : Chg F w w1) (hF : ∀ k, blk A = some k → ¬ F k) : PRow w1 A c ps :=
  ownsRow_chg h hc (fun k hk => hF k (by rw [ownBlock_slice] at hk; exact hk))
theorem PRow.form (h : PRow w A c ps) (h0 : 0 < ps.length) : ∃ g, A = some ⟨g, 0, none⟩ ∧ g < w.heap.size := by
  obtain ⟨g, cap, hv, _, hlt⟩ := World.ownsRow.form h h0
  injection hv with hA
  exact ⟨g, hA, hlt⟩
end
end Go.Proofs.Ytebcginnnjigjaa

end
section
/- What is kept in a region that draws its order, but for some blocks. -/
open Go.RowKit
namespace Go.Proofs.Ytebcginnnjigjaa

/-- What is kept: all blocks but those of F. -/
def KeepQ (F : Nat → Prop) (w w' : World) : Prop := w.heap.size ≤ w'.heap.size ∧ ∀ k, k < w.heap.size → ¬ F k → w'.heap[k]? = w.heap[k]?
theorem KeepQ.refl (F : Nat → Prop) (w : World) : KeepQ F w w := ⟨Nat.le_refl _, fun _ _ _ => rfl⟩
theorem KeepQ.trans (F : Nat → Prop) (a b c : World) (h : KeepQ F a b) (k : KeepQ F b c) : KeepQ F a c :=
  ⟨Nat.le_trans h.1 k.1, fun i hi hF => (k.2 i (Nat.lt_of_lt_of_le hi h.1) hF).trans (h.2 i hi hF)⟩
theorem KeepQ.of_chg {F G : Nat → Prop} {w w' : World} (h : Chg G w w') (hG : ∀ i, i < w.heap.size → G i → F i) : KeepQ F w w' := ⟨h.size, fun i hi hF => h.block i hi (fun g => hF (hG i hi g))⟩
theorem KeepQ.cell {F : Nat → Prop} {w w' : World} (h : KeepQ F w w') {p : Addr} {v : Value} (hp : w.cell? p = some v) (hm : ¬ F p.block) : w'.cell? p = some v := by
  have h1 := h.2 p.block (World.block_lt_of_cell? _ _ hp) hm
  rw [← hp]
  unfold World.cell?
  rw [h1]

theorem Reads.chg {w w1 : World} {sz n : Nat} {A : Option Addr} {xs : List Value} {F : Nat → Prop} (h : Reads w sz A n xs) (hc : Chg F w w1) (hF : ∀ k, blk A = some k → ¬ F k) : Reads w1 sz A n xs := by
  refine ⟨h.1, fun h0 => ?_⟩
  obtain ⟨ad, rfl, hcell⟩ := h.2 h0
  refine ⟨ad, rfl, fun j u hu => ?_⟩
  have h1 := hcell j u hu
  have h2 := hc.block (ad.add j).block (World.block_lt_of_cell? _ _ h1) (by rw [block_of_add]; exact hF _ rfl)
  rw [← h1]
  unfold World.cell?
  rw [h2]
end Go.Proofs.Ytebcginnnjigjaa

end
