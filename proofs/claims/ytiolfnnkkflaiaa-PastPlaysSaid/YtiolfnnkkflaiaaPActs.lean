/- Acts on pasts, in rows. -/
import Derived.Test.YtiolfnnkkflaiaaStr
open Go.RowKit
namespace Go.Proofs.Ytiolfnnkkflaiaa

structure PA where
  k : Int
  i : Int
  d : ByteArray
  A : Option Addr
  c : Nat
  l : List ByteArray
  e : Nat
def PA.cells (q : PA) : List Value := [.int .i64 q.k, .int .i64 q.i, .string q.d, .slice q.A q.l.length q.c, .int .u64 (q.e : Int)]
def pavs (ls : List PA) : List Value := ls.flatMap PA.cells
theorem pavs_cons (q : PA) (ls : List PA) : pavs (q :: ls) = .int .i64 q.k :: .int .i64 q.i :: .string q.d :: .slice q.A q.l.length q.c :: .int .u64 (q.e : Int) :: pavs ls := rfl
theorem pavs_length (ls : List PA) : (pavs ls).length = ls.length * 5 := by
  induction ls with
  | nil => rfl
  | cons p ps ih => rw [pavs_cons]; simp [ih]; omega
theorem pavs_get (ls : List PA) : ∀ (k : Nat) (hk : k < ls.length), (pavs ls)[k * 5]? = some (.int .i64 ls[k].k) ∧ (pavs ls)[k * 5 + 1]? = some (.int .i64 ls[k].i) ∧ (pavs ls)[k * 5 + 2]? = some (.string ls[k].d) ∧ (pavs ls)[k * 5 + 3]? = some (.slice ls[k].A ls[k].l.length ls[k].c) ∧ (pavs ls)[k * 5 + 4]? = some (.int .u64 (ls[k].e : Int)) := by
  induction ls with
  | nil => intro k hk; simp at hk
  | cons p ps ih =>
    intro k hk
    cases k with
    | zero => exact ⟨rfl, rfl, rfl, rfl, rfl⟩
    | succ k =>
      obtain ⟨h0, h1, h2, h3, h4⟩ := ih k (by simpa using hk)
      rw [pavs_cons, show (k + 1) * 5 = k * 5 + 5 by omega]
      exact ⟨h0, h1, h2, h3, h4⟩
/-- Acts that can be read, their texts too. -/
def PActs (w : World) (A : Option Addr) (ls : List PA) : Prop := Reads w 5 A ls.length (pavs ls) ∧ ∀ q ∈ ls, Reads w 1 q.A q.l.length (sts q.l)
theorem pa_cells {w : World} {A : Option Addr} {ls : List PA} (h : Reads w 5 A ls.length (pavs ls)) {k : Nat} (hk : k < ls.length) : ∃ ad : Addr, A = some ad ∧ w.cell? (ad.add (k * 5)) = some (.int .i64 ls[k].k) ∧
    w.cell? ⟨(ad.add (k * 5)).block, (ad.add (k * 5)).off + 1, none⟩ = some (.int .i64 ls[k].i) ∧ w.cell? ⟨(ad.add (k * 5)).block, (ad.add (k * 5)).off + 2, none⟩ = some (.string ls[k].d) ∧
    w.cell? ⟨(ad.add (k * 5)).block, (ad.add (k * 5)).off + 3, none⟩ = some (.slice ls[k].A ls[k].l.length ls[k].c) ∧ w.cell? ⟨(ad.add (k * 5)).block, (ad.add (k * 5)).off + 4, none⟩ = some (.int .u64 (ls[k].e : Int)) := by
  obtain ⟨ad, rfl, hc⟩ := h.2 (by omega)
  have ao : ∀ m : Nat, (⟨(ad.add (k * 5)).block, (ad.add (k * 5)).off + (m + 1), none⟩ : Addr) = ad.add (k * 5 + (m + 1)) := by
    intro m
    unfold Addr.add
    by_cases hn : k * 5 = 0
    · simp [hn]
    · simp [hn, Nat.add_assoc]
  obtain ⟨h0, h1, h2, h3, h4⟩ := pavs_get ls k hk
  refine ⟨ad, rfl, hc _ _ h0, ?_, ?_, ?_, ?_⟩
  · rw [ao 0]; exact hc _ _ h1
  · rw [ao 1]; exact hc _ _ h2
  · rw [ao 2]; exact hc _ _ h3
  · rw [ao 3]; exact hc _ _ h4
end Go.Proofs.Ytiolfnnkkflaiaa
