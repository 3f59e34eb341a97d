/- Steps that came in. -/
import Derived.Test.YtlfclpdcingpnaaOpen
import Derived.Test.YtlfclpdcingpnaaLaw01C
import Derived.Deep.SlicePairs
open Go.RowKit Go.ChangeShapes Go.WideShapes
namespace Go.Proofs.Ytlfclpdcingpnaa
section
variable {H : Type} {enc : TypeId × Value → H} {P : Program} {W : World} {base : Nat} {spare : Nat → Bool} {held : Bool} {t e : TypeId} {a : Option Addr} {len cap : Nat} {d : DataW H} {ps : List MemPlace}
theorem steps_of {f0 f1 : Field} (ht : P.underlying t = some (.slice e)) (he : P.underlying e = some (.struct #[f0, f1])) (ce : P.cellsOf e = 2) (o0 : f0.offset = 0) (o1 : f1.offset = 1) (c0 : P.cellsOf f0.type = 1) (c1 : P.cellsOf f1.type = 1)
    (b0 : P.underlying f0.type = some .bool) (b1 : P.underlying f1.type = some (.int .i64)) (h : DataW.Trod enc P W base spare held t (.slice a len cap) d ps) :
    ∃ st : List (Bool × Int), len = st.length ∧ Reads W 2 a st.length (stv st) := by
  obtain ⟨fuel, hf⟩ := h
  rcases Go.Deep.open_slice_pairs ht he ce o0 o1 c0 c1 hf with ⟨hcs, _⟩ | ⟨x, l, c, m, n, V0, V1, D0, D1, P0, P1, hcs, _, hl, hm, hmm, _, hall⟩
  · simp [Value.cells] at hcs
    obtain ⟨rfl, rfl, rfl⟩ := hcs
    exact ⟨[], rfl, Reads.nil _ _ _⟩
  · simp [Value.cells] at hcs
    obtain ⟨rfl, rfl, rfl⟩ := hcs
    have hlm : len ≤ m := by rw [hmm]; split <;> omega
    have each : ∀ i, i < len → ∃ q : Bool × Int, W.cell? (x.add (i * 2)) = some (.bool q.1) ∧ W.cell? (x.add (i * 2 + 1)) = some (.int .i64 q.2) := by
      intro i hi
      obtain ⟨h0, h1, h2, h3⟩ := hall i (by omega)
      obtain ⟨b, e1, _⟩ := DataW.trod_bool b0 h2
      obtain ⟨y, e2, _⟩ := DataW.trod_int b1 h3
      injection e1 with e1
      injection e2 with e2
      exact ⟨(b, y), by rw [h0, e1], by rw [h1, e2]⟩
    obtain ⟨q, hq⟩ := Go.Deep.choose_lt each
    refine ⟨(List.range len).map q, by simp, by rw [stv_length], fun _ => ⟨x, rfl, fun j u hu => ?_⟩⟩
    have hj : j < len * 2 := by
      have := (List.getElem?_eq_some_iff.1 hu).1
      rw [stv_length] at this
      simpa using this
    obtain ⟨g0, g1⟩ := stv_get ((List.range len).map q) (j / 2) (by simp; omega)
    have hr := hq (j / 2) (by omega)
    rcases (by omega : j = j / 2 * 2 ∨ j = j / 2 * 2 + 1) with e | e
    · rw [e] at hu ⊢
      rw [g0] at hu
      rw [← hu, hr.1]; simp
    · rw [e] at hu ⊢
      rw [g1] at hu
      rw [← hu, hr.2]; simp
end
end Go.Proofs.Ytlfclpdcingpnaa
