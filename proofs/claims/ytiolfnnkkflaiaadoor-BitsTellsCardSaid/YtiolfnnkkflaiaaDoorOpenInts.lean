/- Whole numbers that came in. -/
import Derived.Test.YtiolfnnkkflaiaaDoorOpen
import Derived.Test.YtiolfnnkkflaiaaDoorSetOf
open Go.RowKit Go.ChangeShapes Go.WideShapes
namespace Go.Proofs.YtiolfnnkkflaiaaDoor
section
variable {H : Type} {enc : TypeId × Value → H} {P : Program} {W : World} {base : Nat} {spare : Nat → Bool} {held : Bool} {t e : TypeId} {a : Option Addr} {len cap : Nat} {d : DataW H} {ps : List MemPlace}
theorem ints_of (hu : P.underlying t = some (.slice e)) (he : P.underlying e = some (.int .i64)) (hc : P.cellsOf e = 1) (h : DataW.Trod enc P W base spare held t (.slice a len cap) d ps) :
    ∃ l : List Int, len = l.length ∧ Reads W 1 a l.length (zv l) := by
  obtain ⟨fuel, hf⟩ := h
  rcases open_ints hu he hc hf with ⟨hcs, _⟩ | ⟨x, l, c, zs, hcs, _, hl, hm, hz, _, hcell, hwz⟩
  · simp [Value.cells] at hcs
    obtain ⟨rfl, rfl, rfl⟩ := hcs
    exact ⟨[], rfl, Reads.nil _ _ _⟩
  · simp [Value.cells] at hcs
    obtain ⟨rfl, rfl, rfl⟩ := hcs
    have hlz : len ≤ zs.length := by
      rw [hz]; split
      · exact hl
      · exact Nat.le_refl _
    refine ⟨zs.take len, by simp; omega, by simp [zv], fun _ => ⟨_, rfl, fun j u hj => ?_⟩⟩
    have hjl : j < len := by
      have h1 := (List.getElem?_eq_some_iff.1 hj).1
      simp [zv] at h1; omega
    have hjz : j < zs.length := by omega
    rw [hcell j hjz, ← hj]
    have e1 : zs.getD j 0 = zs[j] := by simp [List.getD_eq_getElem?_getD, hjz]
    rw [e1]
    simp [zv, hjl, hjz]
end
end Go.Proofs.YtiolfnnkkflaiaaDoor
