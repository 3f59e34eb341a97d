/- Arrays that came in: two words, four numbers. -/
import Derived.Test.YtiolfnnkkflaiaaDoorOpen
import Derived.Laws.IdiomArrays
open Go.RowKit Go.ChangeShapes Go.WideShapes
namespace Go.Proofs.YtiolfnnkkflaiaaDoor
section
variable {H : Type} {enc : TypeId × Value → H} {P : Program} {W : World} {base base' : Nat} {spare : Nat → Bool} {held : Bool} {t e : TypeId} {v : Value} {d : DataW H} {ps : List MemPlace}
theorem words_of (ht : P.underlying t = some (.array 2 e)) (he : P.underlying e = some (.int .u64)) (hct : P.cellsOf t = 2) (hc : P.cellsOf e = 1) (hv : Value.okWide P W .any base' t v) (h : DataW.Trod enc P W base spare held t v d ps) :
    ∃ a b : Nat, v = .agg #[.int .u64 a, .int .u64 b] ∧ a < 18446744073709551616 ∧ b < 18446744073709551616 := by
  obtain ⟨cs, rfl, hsz, _⟩ : ∃ cs, v = .agg cs ∧ cs.size = P.cellsOf t ∧ Row.okWide P W .any base' t cs := by simpa [Value.okWide, ht] using hv
  rw [hct] at hsz
  obtain ⟨l⟩ := cs
  obtain ⟨fuel, hf⟩ := h
  match l, hsz with
  | [c0, c1], _ =>
    obtain ⟨xs, m, _, _, _, hxl, hel⟩ := DataW.trod_array ht hf
    rw [hc] at hel
    have h0 := hel 0 (by omega)
    have h1 := hel 1 (by omega)
    rw [List.getElem?_eq_getElem (by omega)] at h0 h1
    simp [Value.cells] at h0 h1
    obtain ⟨n0, e0, _, w0⟩ := DataW.trod_int he h0
    obtain ⟨n1, e1, _, w1⟩ := DataW.trod_int he h1
    simp at e0 e1
    obtain ⟨a, ha, hA⟩ := nat_of_u64 w0
    obtain ⟨b, hb, hB⟩ := nat_of_u64 w1
    exact ⟨a, b, by rw [e0, e1, ha, hb], hA, hB⟩
theorem four_of {k : IntKind} (ht : P.underlying t = some (.array 4 e)) (he : P.underlying e = some (.int k)) (hct : P.cellsOf t = 4) (hc : P.cellsOf e = 1) (hv : Value.okWide P W .any base' t v) (h : DataW.Trod enc P W base spare held t v d ps) :
    ∃ a b c d : Int, v = .agg #[.int k a, .int k b, .int k c, .int k d] ∧ (Lit.int k a).wf = true ∧ (Lit.int k b).wf = true ∧ (Lit.int k c).wf = true ∧ (Lit.int k d).wf = true := by
  obtain ⟨cs, rfl, hsz, _⟩ : ∃ cs, v = .agg cs ∧ cs.size = P.cellsOf t ∧ Row.okWide P W .any base' t cs := by simpa [Value.okWide, ht] using hv
  rw [hct] at hsz
  obtain ⟨l⟩ := cs
  obtain ⟨fuel, hf⟩ := h
  match l, hsz with
  | [c0, c1, c2, c3], _ =>
    obtain ⟨xs, m, _, _, _, hxl, hel⟩ := DataW.trod_array ht hf
    rw [hc] at hel
    have h0 := hel 0 (by omega)
    have h1 := hel 1 (by omega)
    have h2 := hel 2 (by omega)
    have h3 := hel 3 (by omega)
    rw [List.getElem?_eq_getElem (by omega)] at h0 h1 h2 h3
    simp [Value.cells] at h0 h1 h2 h3
    obtain ⟨n0, e0, _, w0⟩ := DataW.trod_int he h0
    obtain ⟨n1, e1, _, w1⟩ := DataW.trod_int he h1
    obtain ⟨n2, e2, _, w2⟩ := DataW.trod_int he h2
    obtain ⟨n3, e3, _, w3⟩ := DataW.trod_int he h3
    simp at e0 e1 e2 e3
    exact ⟨n0, n1, n2, n3, by rw [e0, e1, e2, e3], w0, w1, w2, w3⟩
end
end Go.Proofs.YtiolfnnkkflaiaaDoor
