/- Texts and puts that came in. -/
import Derived.Test.YtebcginnnjigjaaC6
import Derived.Test.YtebcginnnjigjaaC17
import Derived.Deep.SlicePairs
open Go.RowKit Go.ChangeShapes Go.WideShapes
namespace Go.Proofs.Ytebcginnnjigjaa
section
variable {H : Type} {enc : TypeId × Value → H} {P : Program} {W : World} {base : Nat} {spare : Nat → Bool} {held : Bool} {t e : TypeId} {a : Option Addr} {len cap : Nat} {d : DataW H} {ps : List MemPlace}
theorem texts_of (ht : P.underlying t = some (.slice e)) (he : P.underlying e = some .string) (ce : P.cellsOf e = 1) (h : DataW.Trod enc P W base spare held t (.slice a len cap) d ps) :
    ∃ ls : List ByteArray, len = ls.length ∧ Reads W 1 a ls.length (sts ls) ∧ (a = none → ls = [] ∧ cap = 0) := by
  obtain ⟨fuel, hf⟩ := h
  rcases Go.Deep.open_slice ht hf with ⟨hcs, _⟩ | ⟨x, l, c, m, n, D, Pl, hcs, _, hl, hm, hmm, _, hall⟩
  · simp [Value.cells] at hcs
    obtain ⟨rfl, rfl, rfl⟩ := hcs
    exact ⟨[], rfl, Reads.nil _ _ _, fun _ => ⟨rfl, rfl⟩⟩
  · simp [Value.cells] at hcs
    obtain ⟨rfl, rfl, rfl⟩ := hcs
    have hlm : len ≤ m := by rw [hmm]; split <;> omega
    have each : ∀ i, i < len → ∃ q : ByteArray, W.cell? (x.add i) = some (.string q) := by
      intro i hi
      obtain ⟨cs', h1, h2⟩ := hall i (by omega)
      rw [ce] at h1
      obtain ⟨_, hlen, hcell⟩ := World.cells?_some h1
      match cs', hlen with
      | [v0], _ =>
        have e0 := hcell 0 (by omega)
        rw [add_of_add] at e0
        obtain ⟨z0, q0, _⟩ := DataW.trod_string he h2
        injection q0 with q0
        exact ⟨z0, by simpa [q0] using e0⟩
    obtain ⟨q, hq⟩ := Classical.axiomOfChoice (r := fun (i : Nat) (s : ByteArray) => i < len → W.cell? (x.add i) = some (.string s)) (fun i => by
      by_cases hi : i < len
      · obtain ⟨s, hs⟩ := each i hi
        exact ⟨s, fun _ => hs⟩
      · exact ⟨⟨#[]⟩, fun h => absurd h hi⟩)
    refine ⟨(List.range len).map q, by simp, ⟨by rw [sts_length]; omega, fun _ => ⟨x, rfl, fun j u hu => ?_⟩⟩, fun h => by cases h⟩
    have hj : j < len := by
      have := (List.getElem?_eq_some_iff.1 hu).1
      rw [sts_length] at this
      simpa using this
    have g0 := sts_get ((List.range len).map q) j (by simp; omega)
    simp only [List.getElem_map, List.getElem_range] at g0
    rw [g0] at hu
    rw [← hu]
    exact hq j hj
theorem puts_of {f0 f1 : Field} (ht : P.underlying t = some (.slice e)) (he : P.underlying e = some (.struct #[f0, f1])) (ce : P.cellsOf e = 2) (o0 : f0.offset = 0) (o1 : f1.offset = 1) (c0 : P.cellsOf f0.type = 1) (c1 : P.cellsOf f1.type = 1)
    (b0 : P.underlying f0.type = some (.int .i64)) (b1 : P.underlying f1.type = some .string) (h : DataW.Trod enc P W base spare held t (.slice a len cap) d ps) :
    ∃ ls : List (Int × ByteArray), len = ls.length ∧ Reads W 2 a ls.length (pks ls) := by
  obtain ⟨fuel, hf⟩ := h
  rcases Go.Deep.open_slice_pairs ht he ce o0 o1 c0 c1 hf with ⟨hcs, _⟩ | ⟨x, l, c, m, n, V0, V1, D0, D1, P0, P1, hcs, _, hl, hm, hmm, _, hall⟩
  · simp [Value.cells] at hcs
    obtain ⟨rfl, rfl, rfl⟩ := hcs
    exact ⟨[], rfl, Reads.nil _ _ _⟩
  · simp [Value.cells] at hcs
    obtain ⟨rfl, rfl, rfl⟩ := hcs
    have hlm : len ≤ m := by rw [hmm]; split <;> omega
    have each : ∀ i, i < len → ∃ q : Int × ByteArray, W.cell? (x.add (i * 2)) = some (.int .i64 q.1) ∧ W.cell? (x.add (i * 2 + 1)) = some (.string q.2) := by
      intro i hi
      obtain ⟨h0, h1, h2, h3⟩ := hall i (by omega)
      obtain ⟨b, e1, _⟩ := DataW.trod_int b0 h2
      obtain ⟨y, e2, _⟩ := DataW.trod_string b1 h3
      injection e1 with e1
      injection e2 with e2
      exact ⟨(b, y), by rw [h0, e1], by rw [h1, e2]⟩
    obtain ⟨q, hq⟩ := Classical.axiomOfChoice (r := fun (i : Nat) (s : Int × ByteArray) => i < len → W.cell? (x.add (i * 2)) = some (.int .i64 s.1) ∧ W.cell? (x.add (i * 2 + 1)) = some (.string s.2)) (fun i => by
      by_cases hi : i < len
      · obtain ⟨s, hs⟩ := each i hi
        exact ⟨s, fun _ => hs⟩
      · exact ⟨(0, ⟨#[]⟩), fun h => absurd h hi⟩)
    refine ⟨(List.range len).map q, by simp, by rw [pks_length], fun _ => ⟨x, rfl, fun j u hu => ?_⟩⟩
    have hj : j < len * 2 := by
      have := (List.getElem?_eq_some_iff.1 hu).1
      rw [pks_length] at this
      simpa using this
    have g0 := pks_get0 ((List.range len).map q) (j / 2) (by simp; omega)
    have g1 := pks_get1 ((List.range len).map q) (j / 2) (by simp; omega)
    have hr := hq (j / 2) (by omega)
    simp only [List.getElem_map, List.getElem_range] at g0 g1
    rcases (by omega : j = j / 2 * 2 ∨ j = j / 2 * 2 + 1) with e | e
    · rw [e] at hu ⊢
      rw [g0] at hu
      rw [← hu, hr.1]
    · rw [e] at hu ⊢
      rw [g1] at hu
      rw [← hu, hr.2]
end
end Go.Proofs.Ytebcginnnjigjaa
