/- A string as bytes: what is made, as a step of a walk. -/
import Derived.Test.YtjlecfckcciagaaCut
import Derived.Test.YtjlecfckcciagaaRow
import Derived.Laws.IdiomStrings
open Go.RowKit
namespace Go.Proofs.Ytjlecfckcciagaa

/-- The bytes of a string. -/
def bl (s : ByteArray) : List UInt8 := s.data.toList
theorem bl_length (s : ByteArray) : (bl s).length = s.size := rfl
theorem bl_mk (l : List UInt8) : bl ⟨l.toArray⟩ = l := by simp [bl]
theorem mk_bl (s : ByteArray) : (⟨(bl s).toArray⟩ : ByteArray) = s := by simp [bl]

/-- What '[]byte(s)' leaves: a row of its own, that may be written. -/
theorem bytes_made (w : World) (s : ByteArray) : ∃ c w1, (convert 9 49 (.string s)).run Try.prog w = .ok (.slice (some ⟨w.heap.size, 0, none⟩) s.size c) w1 ∧ Reads w1 1 (some ⟨w.heap.size, 0, none⟩) (bl s).length (bv (bl s)) ∧ s.size ≤ c ∧ Below w.heap.size w w1 ∧ w1.heap.size = w.heap.size + 1 := by
  refine ⟨_, _, run_bytes_of_string w 9 49 5 s Try.underlying9 Try.underlying49 Try.underlying5, ?_, ?_, (Below.refl _ _).drew.alloc (Nat.le_refl _) _, size_alloc _ _⟩
  · refine ⟨by rw [bv_length]; omega, fun _ => ⟨_, rfl, fun j u hu => ?_⟩⟩
    have hj : j < s.data.size := by
      have := (List.getElem?_eq_some_iff.1 hu).1
      rw [bv_length] at this; simpa [bl] using this
    have ha : (⟨w.heap.size, 0, none⟩ : Addr).add j = ⟨w.heap.size, j, none⟩ := by unfold Addr.add; split <;> simp_all
    rw [ha]
    have h1 := World.cell?_alloc_mark w.drew (bytesRow s (grownCap w s.size 0 5)) 5 ((bytesRow s (grownCap w s.size 0 5)).size, (bytesRow s (grownCap w s.size 0 5)).size + 1) j
    rw [bytesRow_at _ _ _ hj] at h1
    refine h1.trans ?_
    rw [← hu]
    simp only [bv, bl, List.getElem?_map, Array.getElem?_toList, Array.getElem?_eq_getElem hj, Option.map_some]
  · exact grownCap_ge _ _ _ _

theorem wpList_bytes_of {w : World} {ops : Array Oper} {rest : List Oper} {o : Oper} {a : Act} {Q : Exit → Act → World → Prop} (hgd : o.guard = none) (x : Operand) (ho : o.op = .convert 9 49 x)
    (s : ByteArray) (hx : a.eval x = .string s)
    (h : ∀ A1 c1 w1, Reads w1 1 A1 (bl s).length (bv (bl s)) → s.size ≤ c1 → Below w.heap.size w w1 → wpList Try.prog ops Q rest (a.put o.dst (.slice A1 (bl s).length c1)) w1) : wpList Try.prog ops Q (o :: rest) a w := by
  obtain ⟨c, w1, hrun, h1, h2, h3, _⟩ := bytes_made w s
  refine wpList_plain hgd fun _ hK => ?_
  unfold Oper.wp execOp
  simp only [ho, Sem.run_bind, Result.andThen_ok, hx, hrun]
  exact hK _ _ (h _ _ _ h1 h2 h3)
end Go.Proofs.Ytjlecfckcciagaa
