/- The lists of sets: the code's and the reference's. -/
import Derived.Test.YtiolfnnkkflaiaaDoorSetMath
import Derived.Test.YtiolfnnkkflaiaaDoorSet2
import Derived.Test.YtiolfnnkkflaiaaDoorTz
open Go.RowKit
namespace Go.Proofs.YtiolfnnkkflaiaaDoor

/-- Numbers, as cells. -/
def nv (l : List Nat) : List Value := l.map fun (n : Nat) => Value.int .i64 (n : Int)
theorem nv_length (l : List Nat) : (nv l).length = l.length := by simp [nv]
theorem nv_append (a b : List Nat) : nv (a ++ b) = nv a ++ nv b := by simp [nv]
theorem cell_int : Cell1 Tryd.prog 22 3 (.int .i64 0) 8 := ⟨Tryd.underlying22, by kernel_rfl, rfl, by omega⟩
theorem lst_take (a b k : Nat) (h : has a b k = true) : (List.range (k + 1)).filter (has a b) = (List.range k).filter (has a b) ++ [k] := by
  rw [List.range_succ, List.filter_append]; simp [h]
theorem lst_skip (a b k : Nat) (h : has a b k = false) : (List.range (k + 1)).filter (has a b) = (List.range k).filter (has a b) := by
  rw [List.range_succ, List.filter_append]; simp [h]
theorem filter_le (a b k : Nat) : ((List.range k).filter (has a b)).length ≤ k := by
  have := List.length_filter_le (has a b) (List.range k)
  simpa using this

set_option maxRecDepth 100000 in
theorem refList_any (a b : Nat) (ha : a < 18446744073709551616) (hb : b < 18446744073709551616) (w : World) :
    Calls Tryd.prog 16 #[.agg #[.int .u64 a, .int .u64 b]] w fun e w' => ∃ A c, e = .returned (.slice A (lst a b).length c) ∧ OwnV w' w.heap.size 3 A c (nv (lst a b)) ∧ Below w.heap.size w w' := by
  have Ha := Lib.hid ha
  have Hb := Lib.hid hb
  clear ha hb
  go_enter Tryd.func16, Tryd.ntmps16
  go_wp2
  have hc0 : (w.alloc (.cells #[.int .u64 a, .int .u64 b] 30)).cell? ⟨w.heap.size, 0, none⟩ = some (.int .u64 a) := by rw [cell_of_row _ _ _ _ _ _ (heap_alloc_new _ _)]; rfl
  have hc1 : (w.alloc (.cells #[.int .u64 a, .int .u64 b] 30)).cell? ⟨w.heap.size, 1, none⟩ = some (.int .u64 b) := by rw [cell_of_row _ _ _ _ _ _ (heap_alloc_new _ _)]; rfl
  have hb1 := (Below.refl w.heap.size w).alloc (Nat.le_refl _) (.cells #[.int .u64 a, .int .u64 b] 30)
  have hs1 : (w.alloc (.cells #[.int .u64 a, .int .u64 b] 30)).heap.size = w.heap.size + 1 := size_alloc _ _
  generalize w.alloc (.cells #[.int .u64 a, .int .u64 b] 30) = w1 at hc0 hc1 hb1 hs1 ⊢
  have Hb1 := Lib.hid hb1
  have Hs1 := Lib.hid hs1
  clear hb1 hs1
  go_loopw [3, 4] (fun l i wr => ∃ (k : Nat) (A : Option Addr) (c n : Nat) (L : List Nat), k ≤ 128 ∧ l = .slice A n c ∧ i = .int .i64 k ∧ Hid (L = (List.range k).filter (has a b)) ∧ Hid (n = L.length) ∧ Hid (OwnV wr w1.heap.size 3 A c (nv L)) ∧ Hid (Below w1.heap.size w1 wr)) (fun l i _ => 128 - (intOf i).toNat)
  case atStart => exact ⟨0, none, 0, 0, [], by omega, rfl, rfl, rfl, rfl, OwnV.nil _ _ _, Below.refl _ _⟩
  case round =>
    obtain ⟨k, A, c, n, L, hk, rfl, rfl, HL, Hn, Ho, Hbel⟩ := hrel
    have hc0' := (Hbel.out.cell (p := ⟨w.heap.size, 0, none⟩) (by show w.heap.size < _; rw [Hs1.out]; omega)).trans hc0
    have hc1' := (Hbel.out.cell (p := ⟨w.heap.size, 1, none⟩) (by show w.heap.size < _; rw [Hs1.out]; omega)).trans hc1
    by_cases hlt : k < 128
    · go_wp2_with fail
      refine (has_any a b k Ha.out Hb.out hlt _).mono ?_
      rintro e w2 ⟨rfl, hb2⟩
      have Hbel2 := Lib.hid (Hbel.out.trans (hb2.mono Hbel.out.size))
      have Ho2 := Lib.hid (Ho.out.below hb2)
      clear hb2
      have hnk : n ≤ k := by rw [Hn.out, HL.out]; exact filter_le a b k
      cases hh : has a b k with
      | false =>
        go_wp2_with fail
        case roundEnd =>
          exact ⟨⟨k + 1, A, c, n, L, by omega, rfl, by push_cast; rfl, Lib.hid (by rw [lst_skip a b k hh]; exact HL.out), Hn, Ho2, Hbel2⟩, by simp only [intOf]; omega⟩
      | true =>
        have hle : (w2.alloc (.cells #[.int .i64 (k : Int)] 3)).heap.size = w2.heap.size + 1 := size_alloc _ _
        go_wp2_with (at_builtin; refine wpList_append_row cell_int w1 w1.heap.size rfl (.tmp 12) (.tmp 14) rfl A n c _ (by rw [nv_length, Hn.out]) rfl (Ho2.out.alloc _) (some ⟨w2.heap.size, 0, none⟩) 1 1 [.int .i64 (k : Int)] rfl (Reads.box _ _ _) (by simp; rfl) (by omega) (Hbel2.out.alloc Hbel2.out.size _) (by rw [hle]; have := Hbel2.out.size; omega) ?_)
        intro A3 c3 w3 ho3 hb3 hB3
        have Ho3 := Lib.hid ho3
        have Hbel3 := Lib.hid hb3
        clear ho3 hb3 hle
        go_wp2_with fail
        case roundEnd =>
          refine ⟨⟨k + 1, A3, c3, n + 1, L ++ [k], by omega, rfl, by push_cast; rfl, Lib.hid (by rw [lst_take a b k hh, HL.out]), Lib.hid (by rw [Hn.out]; simp), Lib.hid (by rw [nv_append]; exact Ho3.out), Hbel3⟩, by simp only [intOf]; omega⟩
    · go_wp2
      go_ret
      obtain rfl : k = 128 := by omega
      have e : L = lst a b := HL.out
      subst e
      exact ⟨A, c, by rw [← Hn.out]; rfl, Ho.out.mono (by rw [Hs1.out]; omega), Hb1.out.trans (Hbel.out.mono (by rw [Hs1.out]; omega))⟩
end Go.Proofs.YtiolfnnkkflaiaaDoor
