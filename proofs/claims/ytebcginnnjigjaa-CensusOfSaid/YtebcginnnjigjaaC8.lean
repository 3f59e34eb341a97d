import Derived.Test.YtebcginnnjigjaaC5
import Derived.Test.YtebcginnnjigjaaC7
import Derived.Laws.IdiomStrings
section
/- A string as bytes: what is made, as a step of a walk. -/
open Go.RowKit
namespace Go.Proofs.Ytebcginnnjigjaa

/-- The bytes of a string. -/
def bl (s : ByteArray) : List UInt8 := s.data.toList
theorem bl_length (s : ByteArray) : (bl s).length = s.size := rfl
theorem bl_mk (l : List UInt8) : bl ⟨l.toArray⟩ = l := by simp [bl]
theorem mk_bl (s : ByteArray) : (⟨(bl s).toArray⟩ : ByteArray) = s := by simp [bl]

/-- What '[]byte(s)' leaves: a row of its own, that may be written. -/
theorem bytes_made (w : World) (s : ByteArray) : ∃ c w1, (convert 9 61 (.string s)).run Try.prog w = .ok (.slice (some ⟨w.heap.size, 0, none⟩) s.size c) w1 ∧ Reads w1 1 (some ⟨w.heap.size, 0, none⟩) (bl s).length (bv (bl s)) ∧ s.size ≤ c ∧ Below w.heap.size w w1 ∧ w1.heap.size = w.heap.size + 1 := by
  refine ⟨_, _, run_bytes_of_string w 9 61 5 s Try.underlying9 Try.underlying61 Try.underlying5, ?_, ?_, (Below.refl _ _).drew.alloc (Nat.le_refl _) _, size_alloc _ _⟩
  · refine ⟨by rw [bv_length]; omega, fun _ => ⟨_, rfl, fun j u hu => ?_⟩⟩
    have hj : j < s.data.size := by
      have := (List.getElem?_eq_some_iff.1 hu).1
      rw [bv_length] at this; simpa [bl] using this
    have ha : (⟨w.heap.size, 0, none⟩ : Addr).add j = ⟨w.heap.size, j, none⟩ := by unfold Addr.add; split <;> simp_all
    rw [ha]
    have h1 := World.cell?_alloc_mark w.drew (bytesRow s (grownCap w s.size 0 5)) 5 ((bytesRow s (grownCap w s.size 0 5)).size, (bytesRow s (grownCap w s.size 0 5)).size + 1) j
    rw [bytesRow_at _ _ _ hj] at h1
    refine h1.trans ?_
    rw [← hu]
    simp only [bv, bl, List.getElem?_map, Array.getElem?_toList, Array.getElem?_eq_getElem hj, Option.map_some]
  · exact grownCap_ge _ _ _ _

theorem wpList_bytes_of {w : World} {ops : Array Oper} {rest : List Oper} {o : Oper} {a : Act} {Q : Exit → Act → World → Prop} (hgd : o.guard = none) (x : Operand) (ho : o.op = .convert 9 61 x)
    (s : ByteArray) (hx : a.eval x = .string s)
    (h : ∀ A1 c1 w1, Reads w1 1 A1 (bl s).length (bv (bl s)) → s.size ≤ c1 → Below w.heap.size w w1 → wpList Try.prog ops Q rest (a.put o.dst (.slice A1 (bl s).length c1)) w1) : wpList Try.prog ops Q (o :: rest) a w := by
  obtain ⟨c, w1, hrun, h1, h2, h3, _⟩ := bytes_made w s
  refine wpList_plain hgd fun _ hK => ?_
  unfold Oper.wp execOp
  simp only [ho, Sem.run_bind, Result.andThen_ok, hx, hrun]
  exact hK _ _ (h _ _ _ h1 h2 h3)
end Go.Proofs.Ytebcginnnjigjaa

end
section
/- The reference's numbers as texts. -/
open Go.RowKit
namespace Go.Proofs.Ytebcginnnjigjaa

/-- A number in so many bytes, as a text. -/
def txt (x : Int) (n : Nat) : ByteArray := ⟨(wPut [] x n).toArray⟩
theorem txt_ok (k n : Nat) (h1 : 1 ≤ k) (h2 : k ≤ 8) : txt k n = ⟨(be k n).toArray⟩ := by
  unfold txt
  rw [wPut_ok (wOk_true (by omega) (by omega)), Int.toNat_natCast, List.nil_append]
theorem txt_size (k n : Nat) (h1 : 1 ≤ k) (h2 : k ≤ 8) : (txt k n).size = k := by
  rw [txt_ok k n h1 h2]
  show (be k n).toArray.size = k
  rw [List.size_toArray, be_length]
theorem bl_txt (k n : Nat) (h1 : 1 ≤ k) (h2 : k ≤ 8) : bl (txt k n) = be k n := by rw [txt_ok k n h1 h2, bl_mk]
theorem bl_append (a b : ByteArray) : bl (a ++ b) = bl a ++ bl b := by simp [bl, ByteArray.data_append]
theorem bl_inj {a b : ByteArray} (h : bl a = bl b) : a = b := by
  rw [← mk_bl a, ← mk_bl b, h]

set_option maxRecDepth 100000 in
theorem text_any (x : Int) (n : Nat) (hn : n < 18446744073709551616) (w : World) :
    Calls Try.prog 43 #[.int .i64 x, .int .u64 n] w fun e w' => e = .returned (.string (txt x n)) ∧ Below w.heap.size w w' := by
  have Hn := Lib.hid hn
  clear hn
  go_enter Try.func43, Try.ntmps43
  go_wp2_with fail
  refine (refPut_any none [] 0 x n Hn.out w (Reads.nil _ _ _) (by simp)).mono ?_
  rintro e w1 ⟨A, c, rfl, ho, hb⟩
  have hcv : (convert 61 9 (.slice A (wPut [] x n).length c)).run Try.prog w1 = .ok (.string (txt x n)) w1 := run_string_of_bytes c ho.reads
  have Hb := Lib.hid hb
  clear ho hb
  generalize (wPut [] x n).length = m at hcv ⊢
  go_wp2_with fail
  go_ret
  exact ⟨rfl, Hb.out⟩
end Go.Proofs.Ytebcginnnjigjaa

end
