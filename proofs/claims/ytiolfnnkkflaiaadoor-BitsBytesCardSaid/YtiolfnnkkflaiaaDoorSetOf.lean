/- Sets of lists of numbers: the code's Of. -/
import Derived.Test.YtiolfnnkkflaiaaDoorSetWith
open Go.RowKit
namespace Go.Proofs.YtiolfnnkkflaiaaDoor

/-- Whole numbers, as cells. -/
def zv (l : List Int) : List Value := l.map fun n => .int .i64 n
theorem zv_length (l : List Int) : (zv l).length = l.length := by simp [zv]

/-- What Of gives, from a set on. -/
def ofS : List Int → Nat → Nat → Nat × Nat × Nat
  | [], x, y => (x, y, 0)
  | i :: l, x, y => if 0 ≤ i ∧ i < 128 then ofS l (sput x y i.toNat).1 (sput x y i.toNat).2 else (0, 0, 3)
theorem ofS_nil (x y : Nat) : ofS [] x y = (x, y, 0) := rfl
theorem ofS_in (i : Int) (l : List Int) (x y : Nat) (h : 0 ≤ i ∧ i < 128) : ofS (i :: l) x y = ofS l (sput x y i.toNat).1 (sput x y i.toNat).2 := by rw [ofS, if_pos h]
theorem ofS_out (i : Int) (l : List Int) (x y : Nat) (h : ¬ (0 ≤ i ∧ i < 128)) : ofS (i :: l) x y = (0, 0, 3) := by rw [ofS, if_neg h]

set_option maxRecDepth 100000 in
theorem bitsWith_out (a b : Nat) (i : Int) (hi : i < 0 ∨ 128 ≤ i) (w : World) :
    Calls Tryd.prog 9 #[.agg #[.int .u64 a, .int .u64 b], .int .i64 i] w fun e w' => e = .returned (.tuple #[.agg #[.int .u64 0, .int .u64 0], .int .i64 3]) ∧ Below w.heap.size w w' := by
  have hb1 := ((Below.refl w.heap.size w).alloc (Nat.le_refl _) (.cells #[.int .u64 a, .int .u64 b] 26)).alloc (by rw [size_alloc]; omega) (.cells #[.int .u64 0, .int .u64 0] 26)
  have hg1 := heap_alloc_new (w.alloc (.cells #[.int .u64 a, .int .u64 b] 26)) (.cells #[.int .u64 0, .int .u64 0] 26)
  rw [size_alloc] at hg1
  go_enter Tryd.func9, Tryd.ntmps9
  go_wp2_with fail
  generalize (w.alloc (.cells #[.int .u64 a, .int .u64 b] 26)).alloc (.cells #[.int .u64 0, .int .u64 0] 26) = w1 at hb1 hg1 ⊢
  have Hb1 := Lib.hid hb1
  have Hg1 := Lib.hid hg1
  clear hb1 hg1
  refine (right10_no i hi _).mono ?_
  rintro e w2 ⟨rfl, rfl⟩
  have hc2 : w1.cell? ⟨w.heap.size + 1, 0, none⟩ = some (.int .u64 0) := by rw [cell_of_row _ _ _ _ _ _ Hg1.out]; rfl
  have hc3 : w1.cell? ⟨w.heap.size + 1, 1, none⟩ = some (.int .u64 0) := by rw [cell_of_row _ _ _ _ _ _ Hg1.out]; rfl
  have hf2 : w1.frozen? ⟨w.heap.size + 1, 0, none⟩ = false := frozen_of_row _ _ _ _ _ Hg1.out
  have hf3 : w1.frozen? ⟨w.heap.size + 1, 1, none⟩ = false := frozen_of_row _ _ _ _ _ Hg1.out
  have e2 := heap_setCell_same w1 (w.heap.size + 1) 0 _ _ (.int .u64 0) Hg1.out
  have e3 := heap_setCell_same _ (w.heap.size + 1) 1 _ _ (.int .u64 0) e2
  have E3 := Lib.hid e3
  clear e2 e3 Hg1
  go_wp2_with fail
  try simp only [Exit.inBlock, Exit.then]
  refine bodyPost_ret (results_cell_tmp_row rfl _ _ (w.heap.size + 1) _ _ _ _ rfl E3.out Tryd.underlying26 rfl (by kernel_rfl)) rfl ⟨rfl, (Hb1.out.setCell (p := ⟨w.heap.size + 1, 0, none⟩) (by show w.heap.size ≤ w.heap.size + 1; omega) _).setCell (p := ⟨w.heap.size + 1, 1, none⟩) (by show w.heap.size ≤ w.heap.size + 1; omega) _⟩

theorem sput_le (a b i : Nat) (ha : a < 18446744073709551616) (hb : b < 18446744073709551616) (hi : i < 128) : (sput a b i).1 < 18446744073709551616 ∧ (sput a b i).2 < 18446744073709551616 := sput_lt a b i ha hb hi

set_option maxHeartbeats 1000000 in
set_option maxRecDepth 100000 in
theorem bitsOf_any (A : Option Addr) (l : List Int) (c : Nat) (w : World) (hr : Reads w 1 A l.length (zv l)) (hm : l.length ≤ 100000) :
    Calls Tryd.prog 7 #[.slice A l.length c] w fun e w' => e = .returned (.tuple #[.agg #[.int .u64 ((ofS l 0 0).1 : Nat), .int .u64 ((ofS l 0 0).2.1 : Nat)], .int .i64 ((ofS l 0 0).2.2 : Nat)]) ∧ Below w.heap.size w w' := by
  have Hr := Lib.hid hr
  have Hm := Lib.hid hm
  clear hr hm
  have hb1 := ((Below.refl w.heap.size w).alloc (Nat.le_refl _) (.cells #[.int .u64 0, .int .u64 0] 26)).alloc (by rw [size_alloc]; omega) (.cells #[.int .u64 0, .int .u64 0] 26)
  have hg0 : ((w.alloc (.cells #[.int .u64 0, .int .u64 0] 26)).alloc (.cells #[.int .u64 0, .int .u64 0] 26)).heap[w.heap.size]? = some (.cells #[.int .u64 0, .int .u64 0] 26 (0, 0)) := by
    rw [heap_alloc_old _ _ (by rw [size_alloc]; omega)]; exact heap_alloc_new _ _
  have hg1 := heap_alloc_new (w.alloc (.cells #[.int .u64 0, .int .u64 0] 26)) (.cells #[.int .u64 0, .int .u64 0] 26)
  have hs1 : w.heap.size + 2 ≤ ((w.alloc (.cells #[.int .u64 0, .int .u64 0] 26)).alloc (.cells #[.int .u64 0, .int .u64 0] 26)).heap.size := by rw [size_alloc, size_alloc]; omega
  rw [size_alloc] at hg1
  go_enter Tryd.func7, Tryd.ntmps7
  go_wp2_with fail
  generalize (w.alloc (.cells #[.int .u64 0, .int .u64 0] 26)).alloc (.cells #[.int .u64 0, .int .u64 0] 26) = w1 at hb1 hg0 hg1 hs1 ⊢
  have Hb1 := Lib.hid hb1
  have Hg0 := Lib.hid hg0
  have Hg1 := Lib.hid hg1
  have Hs1 := Lib.hid hs1
  clear hb1 hg0 hg1 hs1
  go_loopw [11] (fun i wr => ∃ (k x y : Nat), k ≤ l.length ∧ i = .int .i64 k ∧ Hid (x < 18446744073709551616 ∧ y < 18446744073709551616) ∧ Hid (ofS (l.drop k) x y = ofS l 0 0) ∧ Hid (wr.heap[w.heap.size]? = some (.cells #[.int .u64 0, .int .u64 0] 26 (0, 0))) ∧ Hid (wr.heap[w.heap.size + 1]? = some (.cells #[.int .u64 x, .int .u64 y] 26 (0, 0))) ∧ Hid (w.heap.size + 2 ≤ wr.heap.size) ∧ Hid (Below w.heap.size w wr)) (fun i _ => l.length - (intOf i).toNat)
  case atStart => exact ⟨0, 0, 0, Nat.zero_le _, rfl, ⟨by omega, by omega⟩, rfl, Hg0, Hg1, Hs1, Hb1⟩
  case round =>
    clear Hg0 Hg1 Hb1 Hs1
    obtain ⟨k, x, y, hk, rfl, Hxy, Hof, Hg0, Hg1, Hs1, Hb1⟩ := hrel
    have hc0 : wr.cell? ⟨w.heap.size, 0, none⟩ = some (.int .u64 0) := by rw [cell_of_row _ _ _ _ _ _ Hg0.out]; rfl
    have hc1 : wr.cell? ⟨w.heap.size, 1, none⟩ = some (.int .u64 0) := by rw [cell_of_row _ _ _ _ _ _ Hg0.out]; rfl
    have hc2 : wr.cell? ⟨w.heap.size + 1, 0, none⟩ = some (.int .u64 x) := by rw [cell_of_row _ _ _ _ _ _ Hg1.out]; rfl
    have hc3 : wr.cell? ⟨w.heap.size + 1, 1, none⟩ = some (.int .u64 y) := by rw [cell_of_row _ _ _ _ _ _ Hg1.out]; rfl
    have hf0 : wr.frozen? ⟨w.heap.size, 0, none⟩ = false := frozen_of_row _ _ _ _ _ Hg0.out
    have hf1 : wr.frozen? ⟨w.heap.size, 1, none⟩ = false := frozen_of_row _ _ _ _ _ Hg0.out
    have hkm : k ≤ 100000 := Nat.le_trans hk Hm.out
    by_cases hlt : k < l.length
    · obtain ⟨ad, rfl, hcell⟩ := (Hr.out.below Hb1.out).at_ (k := k) hlt (u := .int .i64 l[k]) (by simp [zv, hlt])
      have hdrop : l.drop k = l[k] :: l.drop (k + 1) := List.drop_eq_getElem_cons hlt
      have Hdrop := Lib.hid hdrop
      clear hdrop
      by_cases hin : 0 ≤ l[k] ∧ l[k] < 128
      · have Hst := Lib.hid (ofS_in l[k] (l.drop (k + 1)) x y hin)
        have Hlt := Lib.hid (sput_lt x y l[k].toNat Hxy.out.1 Hxy.out.2 (by omega))
        generalize l[k] = v at hcell Hdrop hin Hst Hlt
        obtain ⟨n, rfl⟩ := Int.eq_ofNat_of_zero_le hin.1
        rw [Int.toNat_natCast] at Hst Hlt
        have hn : n < 128 := by omega
        clear hf0 hf1 hc0 hc1 hin
        go_wp2_with fail
        refine (bitsWith_any x y n Hxy.out.1 Hxy.out.2 hn wr).mono ?_
        rintro e w2 ⟨rfl, hb2⟩
        generalize sput x y n = z at Hst Hlt ⊢
        obtain ⟨z1, z2⟩ := z
        have Hg02 := Lib.hid ((hb2.block w.heap.size (by have := Hs1.out; omega)).trans Hg0.out)
        have Hg12 := Lib.hid ((hb2.block (w.heap.size + 1) (by have := Hs1.out; omega)).trans Hg1.out)
        have Hs2 := Lib.hid (Nat.le_trans Hs1.out hb2.size)
        have Hb2 := Lib.hid (Hb1.out.trans (hb2.mono (by have := Hs1.out; omega)))
        clear hb2 hcell hc2 hc3
        have hgn := (heap_alloc_old w2 (.cells #[.int .u64 z1, .int .u64 z2] 26) (show w.heap.size < w2.heap.size by have := Hs2.out; omega)).trans Hg02.out
        have hgo := (heap_alloc_old w2 (.cells #[.int .u64 z1, .int .u64 z2] 26) (show w.heap.size + 1 < w2.heap.size by have := Hs2.out; omega)).trans Hg12.out
        have Hb3 := Lib.hid (Hb2.out.alloc (by have := Hs2.out; omega) (.cells #[.int .u64 z1, .int .u64 z2] 26))
        have Hs3 : Hid (w.heap.size + 2 ≤ (w2.alloc (.cells #[.int .u64 z1, .int .u64 z2] 26)).heap.size) := Lib.hid (by rw [size_alloc]; have := Hs2.out; omega)
        have hc2 : (w2.alloc (.cells #[.int .u64 z1, .int .u64 z2] 26)).cell? ⟨w.heap.size + 1, 0, none⟩ = some (.int .u64 x) := by rw [cell_of_row _ _ _ _ _ _ hgo]; rfl
        have hc3 : (w2.alloc (.cells #[.int .u64 z1, .int .u64 z2] 26)).cell? ⟨w.heap.size + 1, 1, none⟩ = some (.int .u64 y) := by rw [cell_of_row _ _ _ _ _ _ hgo]; rfl
        have hf2 : (w2.alloc (.cells #[.int .u64 z1, .int .u64 z2] 26)).frozen? ⟨w.heap.size + 1, 0, none⟩ = false := frozen_of_row _ _ _ _ _ hgo
        have hf3 : (w2.alloc (.cells #[.int .u64 z1, .int .u64 z2] 26)).frozen? ⟨w.heap.size + 1, 1, none⟩ = false := frozen_of_row _ _ _ _ _ hgo
        have e1 := heap_setCell_same _ (w.heap.size + 1) 0 _ _ (.int .u64 z1) hgo
        have e2 := heap_setCell_same _ (w.heap.size + 1) 1 _ _ (.int .u64 z2) e1
        have E2 := Lib.hid e2
        have Hgn := Lib.hid hgn
        clear e1 e2 hgn hgo
        go_wp2_with fail
        case roundEnd =>
          refine ⟨⟨k + 1, z1, z2, by omega, by push_cast; rfl, Hlt, Lib.hid (by rw [← Hst.out, ← Hdrop.out]; exact Hof.out), Lib.hid ?_, E2, Lib.hid ?_, Lib.hid ?_⟩, by simp only [intOf]; omega⟩
          · rw [heap_setCell_other _ _ _ _ (by simp), heap_setCell_other _ _ _ _ (by simp)]; exact Hgn.out
          · simp only [World.setCell, Array.size_modify]; exact Hs3.out
          · exact (Hb3.out.setCell (p := ⟨w.heap.size + 1, 0, none⟩) (by show w.heap.size ≤ w.heap.size + 1; omega) _).setCell (p := ⟨w.heap.size + 1, 1, none⟩) (by show w.heap.size ≤ w.heap.size + 1; omega) _
      · have Hst := Lib.hid (ofS_out l[k] (l.drop (k + 1)) x y hin)
        generalize l[k] = v at hcell Hdrop hin Hst
        have hin2 : v < 0 ∨ 128 ≤ v := by omega
        clear hf0 hf1 hc0 hc1 hin
        go_wp2_with fail
        refine (bitsWith_out x y v hin2 wr).mono ?_
        rintro e w2 ⟨rfl, hb2⟩
        have Hg02 := Lib.hid ((hb2.block w.heap.size (by have := Hs1.out; omega)).trans Hg0.out)
        have Hs2 := Lib.hid (Nat.le_trans Hs1.out hb2.size)
        have Hb2 := Lib.hid (Hb1.out.trans (hb2.mono (by have := Hs1.out; omega)))
        clear hb2 hcell hc2 hc3
        have hgn := (heap_alloc_old w2 (.cells #[.int .u64 0, .int .u64 0] 26) (show w.heap.size < w2.heap.size by have := Hs2.out; omega)).trans Hg02.out
        have Hb3 := Lib.hid (Hb2.out.alloc (by have := Hs2.out; omega) (.cells #[.int .u64 0, .int .u64 0] 26))
        have hc2 : (w2.alloc (.cells #[.int .u64 0, .int .u64 0] 26)).cell? ⟨w.heap.size, 0, none⟩ = some (.int .u64 0) := by rw [cell_of_row _ _ _ _ _ _ hgn]; rfl
        have hc3 : (w2.alloc (.cells #[.int .u64 0, .int .u64 0] 26)).cell? ⟨w.heap.size, 1, none⟩ = some (.int .u64 0) := by rw [cell_of_row _ _ _ _ _ _ hgn]; rfl
        have hf2 : (w2.alloc (.cells #[.int .u64 0, .int .u64 0] 26)).frozen? ⟨w.heap.size, 0, none⟩ = false := frozen_of_row _ _ _ _ _ hgn
        have hf3 : (w2.alloc (.cells #[.int .u64 0, .int .u64 0] 26)).frozen? ⟨w.heap.size, 1, none⟩ = false := frozen_of_row _ _ _ _ _ hgn
        have e1 := heap_setCell_same _ w.heap.size 0 _ _ (.int .u64 0) hgn
        have e2 := heap_setCell_same _ w.heap.size 1 _ _ (.int .u64 0) e1
        have E2 := Lib.hid e2
        clear e1 e2 hgn
        go_wp2_with fail
        try simp only [Exit.inBlock, Exit.then]
        refine bodyPost_ret (results_cell_tmp_row rfl _ _ w.heap.size _ _ _ _ rfl E2.out Tryd.underlying26 rfl (by kernel_rfl)) rfl ⟨?_, (Hb3.out.setCell (p := ⟨w.heap.size, 0, none⟩) (Nat.le_refl _) _).setCell (p := ⟨w.heap.size, 1, none⟩) (Nat.le_refl _) _⟩
        rw [← Hof.out, Hdrop.out, Hst.out]; rfl
    · have hk' : k = l.length := by omega
      have Hfin : Hid (ofS l 0 0 = (x, y, 0)) := Lib.hid (by rw [← Hof.out, hk', List.drop_length]; rfl)
      have e1 := heap_setCell_same wr w.heap.size 0 _ _ (.int .u64 x) Hg0.out
      have e2 := heap_setCell_same _ w.heap.size 1 _ _ (.int .u64 y) e1
      have E2 := Lib.hid e2
      clear e1 e2
      go_wp2_with fail
      try simp only [Exit.inBlock, Exit.then]
      refine bodyPost_ret (results_cell_tmp_row rfl _ _ w.heap.size _ _ _ _ rfl E2.out Tryd.underlying26 rfl (by kernel_rfl)) rfl ⟨?_, (Hb1.out.setCell (p := ⟨w.heap.size, 0, none⟩) (Nat.le_refl _) _).setCell (p := ⟨w.heap.size, 1, none⟩) (Nat.le_refl _) _⟩
      rw [Hfin.out]; rfl
end Go.Proofs.YtiolfnnkkflaiaaDoor
