/- Cells of blocks that were there, in the middle of a region that draws its order. -/
import Derived.Test.YtebcginnnjigjaaC7
import Derived.Test.YtebcginnnjigjaaC2
open Go.RowKit
namespace Go.Proofs.Ytebcginnnjigjaa
section
variable {w1 wn : World} {g : Nat} {t : TypeId} {cs : Array Value}
theorem keepAt (G : w1.heap[g]? = some (.cells cs t (0, 0))) (hR : Below w1.heap.size w1 wn) (k : Nat) {v : Value} (hk : cs[k]? = some v) : ∀ w', KeepsBut [] wn w' → w'.cell? ⟨g, k, none⟩ = some v := fun w' hkp => by
  have hg : g < w1.heap.size := (Array.getElem?_eq_some_iff.1 G).1
  exact hkp.cell (p := ⟨g, k, none⟩) ((hR.cell (p := ⟨g, k, none⟩) hg).trans (by rw [cell_of_row _ _ _ _ _ _ G]; exact hk)) (by simp)
theorem keep1 {v0 : Value} (G : w1.heap[g]? = some (.cells #[v0] t (0, 0))) (hR : Below w1.heap.size w1 wn) : ∀ w', KeepsBut [] wn w' → w'.cell? ⟨g, 0, none⟩ = some v0 := keepAt G hR 0 rfl
theorem keep2 {v0 v1 : Value} (G : w1.heap[g]? = some (.cells #[v0, v1] t (0, 0))) (hR : Below w1.heap.size w1 wn) : (∀ w', KeepsBut [] wn w' → w'.cell? ⟨g, 0, none⟩ = some v0) ∧ (∀ w', KeepsBut [] wn w' → w'.cell? ⟨g, 1, none⟩ = some v1) :=
  ⟨keepAt G hR 0 rfl, keepAt G hR 1 rfl⟩
end
end Go.Proofs.Ytebcginnnjigjaa
