/- Puts that came in: their places are numbers of 64 bits. -/
import Derived.Test.YtjlecfckcciagaaOpenStrs
open Go.RowKit Go.ChangeShapes Go.WideShapes
namespace Go.Proofs.Ytjlecfckcciagaa
section
variable {H : Type} {enc : TypeId × Value → H} {P : Program} {W : World} {base : Nat} {spare : Nat → Bool} {held : Bool} {t e : TypeId} {a : Option Addr} {len cap : Nat} {d : DataW H} {ps : List MemPlace}
theorem puts_wf {f0 f1 : Field} (ht : P.underlying t = some (.slice e)) (he : P.underlying e = some (.struct #[f0, f1])) (ce : P.cellsOf e = 2) (o0 : f0.offset = 0) (o1 : f1.offset = 1) (c0 : P.cellsOf f0.type = 1) (c1 : P.cellsOf f1.type = 1)
    (b0 : P.underlying f0.type = some (.int .i64)) (b1 : P.underlying f1.type = some .string) (h : DataW.Trod enc P W base spare held t (.slice a len cap) d ps) :
    ∃ ls : List (Int × ByteArray), len = ls.length ∧ Reads W 2 a ls.length (pks ls) ∧ ∀ p ∈ ls, (Lit.int .i64 p.1).wf = true := by
  obtain ⟨ls, rfl, hr⟩ := puts_of ht he ce o0 o1 c0 c1 b0 b1 h
  refine ⟨ls, rfl, hr, fun p hp => ?_⟩
  obtain ⟨i, hi, rfl⟩ := List.mem_iff_getElem.1 hp
  obtain ⟨ad, rfl, d0, _⟩ := put_cells hr hi
  obtain ⟨fuel, hf⟩ := h
  rcases Go.Deep.open_slice_pairs ht he ce o0 o1 c0 c1 hf with ⟨hcs, _⟩ | ⟨x, l, c, m, n, V0, V1, D0, D1, P0, P1, hcs, _, hl, hm, hmm, _, hall⟩
  · simp [Value.cells] at hcs
  · simp [Value.cells] at hcs
    obtain ⟨rfl, rfl, rfl⟩ := hcs
    have hlm : ls.length ≤ m := by rw [hmm]; split <;> omega
    obtain ⟨h0, _, h2, _⟩ := hall i (by omega)
    obtain ⟨b, e1, _, hw⟩ := DataW.trod_int b0 h2
    rw [d0] at h0
    injection e1 with e1
    rw [e1] at h0
    have : ls[i].1 = b := by have := Option.some.inj h0; injection this
    rw [this]
    exact hw
end
end Go.Proofs.Ytjlecfckcciagaa
