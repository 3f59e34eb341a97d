/- Acts on pasts that came in. -/
import Derived.Test.YtiolfnnkkflaiaaOpenStrs
import Derived.Test.YtiolfnnkkflaiaaPActs
import Derived.Lib.SmallJoins
open Go.RowKit Go.ChangeShapes Go.WideShapes
namespace Go.Proofs.Ytiolfnnkkflaiaa
section
variable {H : Type} {enc : TypeId × Value → H} {P : Program} {W : World} {base : Nat} {spare : Nat → Bool} {held : Bool} {t e : TypeId} {a : Option Addr} {len cap : Nat} {d : DataW H} {ps : List MemPlace}
theorem pacts_of {f0 f1 f2 f3 f4 : Field} {te : TypeId} (ht : P.underlying t = some (.slice e)) (he : P.underlying e = some (.struct #[f0, f1, f2, f3, f4])) (ce : P.cellsOf e = 5)
    (o : f0.offset = 0 ∧ f1.offset = 1 ∧ f2.offset = 2 ∧ f3.offset = 3 ∧ f4.offset = 4) (c0 : P.cellsOf f0.type = 1) (c1 : P.cellsOf f1.type = 1) (c2 : P.cellsOf f2.type = 1) (c3 : P.cellsOf f3.type = 1) (c4 : P.cellsOf f4.type = 1)
    (b0 : P.underlying f0.type = some (.int .i64)) (b1 : P.underlying f1.type = some (.int .i64)) (b2 : P.underlying f2.type = some .string) (b3 : P.underlying f3.type = some (.slice te)) (b4 : P.underlying f4.type = some (.int .u64)) (b5 : P.underlying te = some .string) (c5 : P.cellsOf te = 1)
    (h : DataW.Trod enc P W base spare held t (.slice a len cap) d ps) :
    ∃ ls : List PA, len = ls.length ∧ PActs W a ls := by
  obtain ⟨fuel, hf⟩ := h
  rcases Go.Deep.open_slice ht hf with ⟨hcs, _⟩ | ⟨x, l, c, m, n, D, Pl, hcs, _, hl, hm, hmm, _, hall⟩
  · simp [Value.cells] at hcs
    obtain ⟨rfl, rfl, rfl⟩ := hcs
    exact ⟨[], rfl, Reads.nil _ _ _, fun q hq => by simp at hq⟩
  · simp [Value.cells] at hcs
    obtain ⟨rfl, rfl, rfl⟩ := hcs
    have hlm : len ≤ m := by rw [hmm]; split <;> omega
    have each : ∀ i, i < len → ∃ q : PA, (W.cell? (x.add (i * 5)) = some (.int .i64 q.k) ∧ W.cell? (x.add (i * 5 + 1)) = some (.int .i64 q.i) ∧ W.cell? (x.add (i * 5 + 2)) = some (.string q.d) ∧ W.cell? (x.add (i * 5 + 3)) = some (.slice q.A q.l.length q.c) ∧ W.cell? (x.add (i * 5 + 4)) = some (.int .u64 (q.e : Int))) ∧ Reads W 1 q.A q.l.length (sts q.l) := by
      intro i hi
      obtain ⟨cs', h1, h2⟩ := hall i (by omega)
      rw [ce] at h1
      obtain ⟨_, hlen, hcell⟩ := World.cells?_some h1
      obtain ⟨xs, k, hk, hxy, _, hxl, hf⟩ := DataW.trod_struct he h2
      obtain ⟨o0, o1, o2, o3, o4⟩ := o
      match xs, hxl, cs', hlen with
      | [y0, y1, y2, y3, y4], _, [v0, v1, v2, v3, v4], _ =>
        have g0 := hf 0 f0 rfl
        have g1 := hf 1 f1 rfl
        have g2 := hf 2 f2 rfl
        have g3 := hf 3 f3 rfl
        have g4 := hf 4 f4 rfl
        simp [o0, o1, o2, o3, o4, c0, c1, c2, c3, c4] at g0 g1 g2 g3 g4
        have e0 := hcell 0 (by omega)
        have e1 := hcell 1 (by omega)
        have e2 := hcell 2 (by omega)
        have e3 := hcell 3 (by omega)
        have e4 := hcell 4 (by omega)
        rw [add_of_add] at e0 e1 e2 e3 e4
        obtain ⟨z0, q0, _⟩ := DataW.trod_int b0 g0
        obtain ⟨z1, q1, _⟩ := DataW.trod_int b1 g1
        obtain ⟨z2, q2, _⟩ := DataW.trod_string b2 g2
        obtain ⟨z3, l3, c3', q3⟩ := Go.Joins.slice_form b3 g3
        obtain ⟨z4, q4, _, w4⟩ := DataW.trod_int b4 g4
        obtain ⟨n4, rfl, _⟩ := nat_of_u64 w4
        injection q0 with q0
        injection q1 with q1
        injection q2 with q2
        injection q3 with q3
        injection q4 with q4
        subst q3
        obtain ⟨L, hL, hR, _⟩ := texts_of (enc := enc) (W := W) (base := base) (spare := spare) (held := held) (d := y3.1) (ps := y3.2) b3 b5 c5 ⟨_, g3⟩
        exact ⟨⟨z0, z1, z2, z3, c3', L, n4⟩, ⟨by simpa [q0] using e0, by simpa [q1] using e1, by simpa [q2] using e2, by simpa [hL] using e3, by simpa [q4] using e4⟩, hR⟩
    obtain ⟨q, hq⟩ := Classical.axiomOfChoice (r := fun (i : Nat) (a : PA) => i < len → (W.cell? (x.add (i * 5)) = some (.int .i64 a.k) ∧ W.cell? (x.add (i * 5 + 1)) = some (.int .i64 a.i) ∧ W.cell? (x.add (i * 5 + 2)) = some (.string a.d) ∧ W.cell? (x.add (i * 5 + 3)) = some (.slice a.A a.l.length a.c) ∧ W.cell? (x.add (i * 5 + 4)) = some (.int .u64 (a.e : Int))) ∧ Reads W 1 a.A a.l.length (sts a.l)) (fun i => by
      by_cases hi : i < len
      · obtain ⟨a, ha⟩ := each i hi
        exact ⟨a, fun _ => ha⟩
      · exact ⟨⟨0, 0, ⟨#[]⟩, none, 0, [], 0⟩, fun h => absurd h hi⟩)
    refine ⟨(List.range len).map q, by simp, ⟨by rw [pavs_length], fun _ => ⟨x, rfl, fun j u hu => ?_⟩⟩, fun y hy => ?_⟩
    · have hj : j < len * 5 := by
        have := (List.getElem?_eq_some_iff.1 hu).1
        rw [pavs_length] at this
        simpa using this
      obtain ⟨g0, g1, g2, g3, g4⟩ := pavs_get ((List.range len).map q) (j / 5) (by simp; omega)
      have hr := (hq (j / 5) (by omega)).1
      simp only [List.getElem_map, List.getElem_range] at g0 g1 g2 g3 g4
      rcases (by omega : j = j / 5 * 5 ∨ j = j / 5 * 5 + 1 ∨ j = j / 5 * 5 + 2 ∨ j = j / 5 * 5 + 3 ∨ j = j / 5 * 5 + 4) with e | e | e | e | e
      · rw [e] at hu ⊢
        rw [g0] at hu
        rw [← hu, hr.1]
      · rw [e] at hu ⊢
        rw [g1] at hu
        rw [← hu, hr.2.1]
      · rw [e] at hu ⊢
        rw [g2] at hu
        rw [← hu, hr.2.2.1]
      · rw [e] at hu ⊢
        rw [g3] at hu
        rw [← hu, hr.2.2.2.1]
      · rw [e] at hu ⊢
        rw [g4] at hu
        rw [← hu, hr.2.2.2.2]
    · simp only [List.mem_map, List.mem_range] at hy
      obtain ⟨i, hi, rfl⟩ := hy
      exact (hq i hi).2
end
end Go.Proofs.Ytiolfnnkkflaiaa
