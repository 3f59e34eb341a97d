/- What is kept in a region that draws its order, but for some blocks. -/
import Derived.Test.YtcahflddafdhfaaPk
open Go.RowKit
namespace Go.Proofs.Ytcahflddafdhfaa

/-- What is kept: all blocks but those of F. -/
def KeepQ (F : Nat → Prop) (w w' : World) : Prop := w.heap.size ≤ w'.heap.size ∧ ∀ k, k < w.heap.size → ¬ F k → w'.heap[k]? = w.heap[k]?
theorem KeepQ.refl (F : Nat → Prop) (w : World) : KeepQ F w w := ⟨Nat.le_refl _, fun _ _ _ => rfl⟩
theorem KeepQ.trans (F : Nat → Prop) (a b c : World) (h : KeepQ F a b) (k : KeepQ F b c) : KeepQ F a c :=
  ⟨Nat.le_trans h.1 k.1, fun i hi hF => (k.2 i (Nat.lt_of_lt_of_le hi h.1) hF).trans (h.2 i hi hF)⟩
theorem KeepQ.of_chg {F G : Nat → Prop} {w w' : World} (h : Chg G w w') (hG : ∀ i, i < w.heap.size → G i → F i) : KeepQ F w w' := ⟨h.size, fun i hi hF => h.block i hi (fun g => hF (hG i hi g))⟩
theorem KeepQ.cell {F : Nat → Prop} {w w' : World} (h : KeepQ F w w') {p : Addr} {v : Value} (hp : w.cell? p = some v) (hm : ¬ F p.block) : w'.cell? p = some v := by
  have h1 := h.2 p.block (World.block_lt_of_cell? _ _ hp) hm
  rw [← hp]
  unfold World.cell?
  rw [h1]

theorem Reads.chg {w w1 : World} {sz n : Nat} {A : Option Addr} {xs : List Value} {F : Nat → Prop} (h : Reads w sz A n xs) (hc : Chg F w w1) (hF : ∀ k, blk A = some k → ¬ F k) : Reads w1 sz A n xs := by
  refine ⟨h.1, fun h0 => ?_⟩
  obtain ⟨ad, rfl, hcell⟩ := h.2 h0
  refine ⟨ad, rfl, fun j u hu => ?_⟩
  have h1 := hcell j u hu
  have h2 := hc.block (ad.add j).block (World.block_lt_of_cell? _ _ h1) (by rw [block_of_add]; exact hF _ rfl)
  rw [← h1]
  unfold World.cell?
  rw [h2]
end Go.Proofs.Ytcahflddafdhfaa
