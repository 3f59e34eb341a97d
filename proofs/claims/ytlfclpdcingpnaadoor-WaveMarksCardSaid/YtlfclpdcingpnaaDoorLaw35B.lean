/- The walk of WaveMarks. -/
import Derived.Test.YtlfclpdcingpnaaDoorMarksMath
import Derived.Test.YtlfclpdcingpnaaDoorCMul
open Go.RowKit
namespace Go.Proofs.YtlfclpdcingpnaaDoor
attribute [local go_sem] store_f store_c

set_option maxHeartbeats 4000000 in
set_option maxRecDepth 100000 in
theorem waveMarks_any (a b : Nat) (ha : a < 18446744073709551616) (hb : b < 18446744073709551616) (k : Int) (w : World) (hT : TabAt 0 Lib.deBruijn64tab w) :
    Calls Tryd.prog 4 #[.agg #[.int .u64 a, .int .u64 b], .int .i64 k] w fun e w' => e = .returned (.bool true) ∧ Below w.heap.size w w' := by
  have Ha := Lib.hid ha
  have Hb := Lib.hid hb
  have HT := Lib.hid hT
  clear ha hb hT
  have hb1 := (((Below.refl w.heap.size w).alloc (Nat.le_refl _) (.cells #[.int .u64 a, .int .u64 b] 25)).alloc (by rw [size_alloc]; omega) (.cells #[.int .u64 a, .int .u64 b] 33)).alloc (by rw [size_alloc, size_alloc]; omega) (.cells #[.int .u64 a, .int .u64 b] 26)
  have hs1 : (((w.alloc (.cells #[.int .u64 a, .int .u64 b] 25)).alloc (.cells #[.int .u64 a, .int .u64 b] 33)).alloc (.cells #[.int .u64 a, .int .u64 b] 26)).heap.size = w.heap.size + 3 := by rw [size_alloc, size_alloc, size_alloc]
  have hg5 : (((w.alloc (.cells #[.int .u64 a, .int .u64 b] 25)).alloc (.cells #[.int .u64 a, .int .u64 b] 33)).alloc (.cells #[.int .u64 a, .int .u64 b] 26)).heap[w.heap.size + 1]? = some (.cells #[.int .u64 a, .int .u64 b] 33 (0, 0)) := by
    have := heap_alloc_new (w.alloc (.cells #[.int .u64 a, .int .u64 b] 25)) (.cells #[.int .u64 a, .int .u64 b] 33)
    rw [size_alloc] at this
    rw [heap_alloc_old _ _ (by rw [size_alloc, size_alloc]; omega)]; exact this
  have hg6 := heap_alloc_new ((w.alloc (.cells #[.int .u64 a, .int .u64 b] 25)).alloc (.cells #[.int .u64 a, .int .u64 b] 33)) (.cells #[.int .u64 a, .int .u64 b] 26)
  rw [size_alloc, size_alloc] at hg6
  have j0 : (((w.alloc (.cells #[.int .u64 a, .int .u64 b] 25)).alloc (.cells #[.int .u64 a, .int .u64 b] 33)).alloc (.cells #[.int .u64 a, .int .u64 b] 26)).cell? ⟨w.heap.size + 1, 0, none⟩ = some (.int .u64 a) := by rw [cell_of_row _ _ _ _ _ _ hg5]; rfl
  have j1 : (((w.alloc (.cells #[.int .u64 a, .int .u64 b] 25)).alloc (.cells #[.int .u64 a, .int .u64 b] 33)).alloc (.cells #[.int .u64 a, .int .u64 b] 26)).cell? ⟨w.heap.size + 1, 1, none⟩ = some (.int .u64 b) := by rw [cell_of_row _ _ _ _ _ _ hg5]; rfl
  go_enter Tryd.func4, Tryd.ntmps4
  go_wp2_with fail
  clear j0 j1
  generalize (((w.alloc (.cells #[.int .u64 a, .int .u64 b] 25)).alloc (.cells #[.int .u64 a, .int .u64 b] 33)).alloc (.cells #[.int .u64 a, .int .u64 b] 26)) = w1 at hb1 hs1 hg5 hg6 ⊢
  have hg5w : w.heap.size ≤ w.heap.size + 1 := by omega
  have hg6w : w.heap.size ≤ w.heap.size + 1 + 1 := by omega
  generalize hG5 : w.heap.size + 1 = g5 at hg5 hg6 hg5w hg6w ⊢
  generalize hG6 : g5 + 1 = g6 at hg6 hg6w ⊢
  have HT1 := Lib.hid (tab_below HT.out hb1 (tab_lt HT.out))
  refine (lanes_any a b Ha.out Hb.out w1 HT1.out).mono ?_
  rintro e w2 ⟨x0, x1, x2, x3, rfl, hx, hb2⟩
  have Hx := Lib.hid hx
  have hg52 := (hb2.block g5 (by omega)).trans hg5
  have hg62 := (hb2.block g6 (by omega)).trans hg6
  have hB2 := hb1.trans (hb2.mono hb1.size)
  have hs2 : g6 < w2.heap.size := by have := hb2.size; omega
  have hc0 : (w2.alloc (.cells #[.float .f64 x0, .float .f64 x1, .float .f64 x2, .float .f64 x3] 37)).cell? ⟨w2.heap.size, 0, none⟩ = some (.float .f64 x0) := by rw [cell_of_row _ _ _ _ _ _ (heap_alloc_new _ _)]; rfl
  have hc1 : (w2.alloc (.cells #[.float .f64 x0, .float .f64 x1, .float .f64 x2, .float .f64 x3] 37)).cell? ⟨w2.heap.size, 1, none⟩ = some (.float .f64 x1) := by rw [cell_of_row _ _ _ _ _ _ (heap_alloc_new _ _)]; rfl
  have hc2 : (w2.alloc (.cells #[.float .f64 x0, .float .f64 x1, .float .f64 x2, .float .f64 x3] 37)).cell? ⟨w2.heap.size, 2, none⟩ = some (.float .f64 x2) := by rw [cell_of_row _ _ _ _ _ _ (heap_alloc_new _ _)]; rfl
  have hc3 : (w2.alloc (.cells #[.float .f64 x0, .float .f64 x1, .float .f64 x2, .float .f64 x3] 37)).cell? ⟨w2.heap.size, 3, none⟩ = some (.float .f64 x3) := by rw [cell_of_row _ _ _ _ _ _ (heap_alloc_new _ _)]; rfl
  have hg53 := (heap_alloc_old w2 (.cells #[.float .f64 x0, .float .f64 x1, .float .f64 x2, .float .f64 x3] 37) (show g5 < w2.heap.size by omega)).trans hg52
  have hg63 := (heap_alloc_old w2 (.cells #[.float .f64 x0, .float .f64 x1, .float .f64 x2, .float .f64 x3] 37) (show g6 < w2.heap.size by omega)).trans hg62
  have hg73 := heap_alloc_new w2 (.cells #[.float .f64 x0, .float .f64 x1, .float .f64 x2, .float .f64 x3] 37)
  have hs3 := size_alloc w2 (.cells #[.float .f64 x0, .float .f64 x1, .float .f64 x2, .float .f64 x3] 37)
  have hB3 := hB2.alloc hB2.size (.cells #[.float .f64 x0, .float .f64 x1, .float .f64 x2, .float .f64 x3] 37)
  clear hb1 hs1 hg5 hg6 hx hb2 hg52 hg62
  go_wp2_with fail
  clear hc0 hc1 hc2 hc3
  generalize w2.alloc (.cells #[.float .f64 x0, .float .f64 x1, .float .f64 x2, .float .f64 x3] 37) = w3 at hg53 hg63 hg73 hs3 hB3 ⊢
  have hg7w : w.heap.size ≤ w2.heap.size := hB2.size
  generalize w2.heap.size = g7 at hg73 hs3 hs2 hg7w ⊢
  have hl := lst_len a b
  have l0 := cnt_le 0 (lst a b)
  have l1 := cnt_le 1 (lst a b)
  have l2 := cnt_le 2 (lst a b)
  have l3 := cnt_le 3 (lst a b)
  refine (four_any x0 x1 x2 x3 _ _ _ _ Hx.out.1 Hx.out.2.1 Hx.out.2.2.1 Hx.out.2.2.2 (by omega) (by omega) (by omega) (by omega) w3).mono ?_
  rintro e w4 ⟨a0, a1, c1, a2, a3, c3, rfl, hy, hb4⟩
  have Hy := Lib.hid hy
  have hg54 := (heap_alloc_old w4 (.cells #[.complex .f64 a0 0, .complex .f64 a1 c1, .complex .f64 a2 0, .complex .f64 a3 c3] 39) (show g5 < w4.heap.size by have := hb4.size; omega)).trans ((hb4.block g5 (by omega)).trans hg53)
  have hg64 := (heap_alloc_old w4 (.cells #[.complex .f64 a0 0, .complex .f64 a1 c1, .complex .f64 a2 0, .complex .f64 a3 c3] 39) (show g6 < w4.heap.size by have := hb4.size; omega)).trans ((hb4.block g6 (by omega)).trans hg63)
  have hg74 := (heap_alloc_old w4 (.cells #[.complex .f64 a0 0, .complex .f64 a1 c1, .complex .f64 a2 0, .complex .f64 a3 c3] 39) (show g7 < w4.heap.size by have := hb4.size; omega)).trans ((hb4.block g7 (by omega)).trans hg73)
  have hg84 := heap_alloc_new w4 (.cells #[.complex .f64 a0 0, .complex .f64 a1 c1, .complex .f64 a2 0, .complex .f64 a3 c3] 39)
  have hs4 := size_alloc w4 (.cells #[.complex .f64 a0 0, .complex .f64 a1 c1, .complex .f64 a2 0, .complex .f64 a3 c3] 39)
  have hz4 : g7 < w4.heap.size := by have := hb4.size; omega
  have hB4 := hB3.trans (hb4.mono hB3.size)
  have hB5 := hB4.alloc hB4.size (.cells #[.complex .f64 a0 0, .complex .f64 a1 c1, .complex .f64 a2 0, .complex .f64 a3 c3] 39)
  clear hg53 hg63 hg73 hs3 hB3 hy hb4 hB2
  go_wp2_with fail
  generalize w4.alloc (.cells #[.complex .f64 a0 0, .complex .f64 a1 c1, .complex .f64 a2 0, .complex .f64 a3 c3] 39) = w5 at hg54 hg64 hg74 hg84 hs4 hB5 ⊢
  generalize w4.heap.size = g8 at hg84 hs4 hz4 ⊢
  have S0 : Hid (w5.cell? ⟨g5, 0, none⟩ = some (.int .u64 a)) := Lib.hid (by rw [cell_of_row _ _ _ _ _ _ hg54]; rfl)
  have S1 : Hid (w5.cell? ⟨g5, 1, none⟩ = some (.int .u64 b)) := Lib.hid (by rw [cell_of_row _ _ _ _ _ _ hg54]; rfl)
  have R0 : Hid (w5.cell? ⟨g6, 0, none⟩ = some (.int .u64 a)) := Lib.hid (by rw [cell_of_row _ _ _ _ _ _ hg64]; rfl)
  have R1 : Hid (w5.cell? ⟨g6, 1, none⟩ = some (.int .u64 b)) := Lib.hid (by rw [cell_of_row _ _ _ _ _ _ hg64]; rfl)
  have X0 : Hid (w5.cell? ⟨g7, 0, none⟩ = some (.float .f64 x0)) := Lib.hid (by rw [cell_of_row _ _ _ _ _ _ hg74]; rfl)
  have X1 : Hid (w5.cell? ⟨g7, 1, none⟩ = some (.float .f64 x1)) := Lib.hid (by rw [cell_of_row _ _ _ _ _ _ hg74]; rfl)
  have X2 : Hid (w5.cell? ⟨g7, 2, none⟩ = some (.float .f64 x2)) := Lib.hid (by rw [cell_of_row _ _ _ _ _ _ hg74]; rfl)
  have X3 : Hid (w5.cell? ⟨g7, 3, none⟩ = some (.float .f64 x3)) := Lib.hid (by rw [cell_of_row _ _ _ _ _ _ hg74]; rfl)
  have C1 : Hid (w5.cell? ⟨g8, 1, none⟩ = some (.complex .f64 a1 c1)) := Lib.hid (by rw [cell_of_row _ _ _ _ _ _ hg84]; rfl)
  have C2 : Hid (w5.cell? ⟨g8, 2, none⟩ = some (.complex .f64 a2 0)) := Lib.hid (by rw [cell_of_row _ _ _ _ _ _ hg84]; rfl)
  have C3 : Hid (w5.cell? ⟨g8, 3, none⟩ = some (.complex .f64 a3 c3)) := Lib.hid (by rw [cell_of_row _ _ _ _ _ _ hg84]; rfl)
  have Zg5 : Hid (g5 < w5.heap.size) := Lib.hid (by omega)
  have Zg6 : Hid (g6 < w5.heap.size) := Lib.hid (by omega)
  have Zg7 : Hid (g7 < w5.heap.size) := Lib.hid (by omega)
  have Zg8 : Hid (g8 < w5.heap.size) := Lib.hid (by omega)
  have HT5 := Lib.hid (tab_below HT.out hB5 (tab_lt HT.out))
  have HB5 := Lib.hid hB5
  have HR := Lib.hid (show Below w5.heap.size w5 w5.drew from (Below.refl _ _).drew)
  clear hg54 hg64 hg74 hg84 hs4 hz4 hB4 hB5 hs2 hg5w hg6w hg7w hG5 hG6 HT1 l0 l1 l2 l3
  refine wp_region_mix (KeepsBut []) (KeepsBut.refl []) (KeepsBut.trans []) [] [(true, 0), (true, 2), (false, 1), (false, 3), (false, 4), (true, 5), (true, 6), (true, 7), (true, 9), (false, 8), (false, 10), (false, 11), (true, 12), (true, 13), (true, 14), (true, 15), (true, 16), (false, 17), (false, 18), (true, 19), (true, 20)] (by kernel_rfl) (by kernel_rfl) (fun d _ _ _ _ h => by cases d <;> exact h) ?_
  repeat (first
    | (refine mix_pure (v := ?_) rfl rfl ?_ (mix_norm (a' := ?_) ?_ ?_)
       rotate_left
       focus (intro w' hR; go_simp; first | done | (with_reducible rfl))
       rotate_left
       focus (simp only [Act.put, List.getElem_toArray, List.getElem_cons_zero, List.getElem_cons_succ, List.setIfInBounds_toArray, List.set_cons_zero, List.set_cons_succ]; rfl))
    | (refine mix_off rfl rfl (mix_norm (a' := ?_) ?_ ?_)
       rotate_left
       focus (simp only [Act.put, List.getElem_toArray, List.getElem_cons_zero, List.getElem_cons_succ, List.setIfInBounds_toArray, List.set_cons_zero, List.set_cons_succ]; rfl)))
  refine mix_eff rfl ?_
  simp only [List.getElem_toArray, List.getElem_cons_zero, List.getElem_cons_succ]
  go_wp2_with fail
  refine (turn_any k w5.drew).mono ?_
  rintro e w6 ⟨rfl, hb6⟩
  have HR6 := Lib.hid (show Below w5.heap.size w5 w6 from HR.out.trans (hb6.mono (B' := w5.heap.size) HR.out.size))
  go_wp2_with fail
  refine mixQ_normal (KeepsBut.of_below hb6) rfl ?_
  clear hb6
  refine mix_eff rfl ?_
  simp only [List.getElem_toArray, List.getElem_cons_zero, List.getElem_cons_succ]
  go_wp2_with fail
  refine (refTurn_any k w6).mono ?_
  rintro e w7 ⟨rfl, hb7⟩
  have HR7 := Lib.hid (show Below w5.heap.size w5 w7 from HR6.out.trans (hb7.mono (B' := w5.heap.size) HR6.out.size))
  go_wp2_with fail
  refine mixQ_normal (KeepsBut.of_below hb7) rfl ?_
  clear hb7
  refine mix_eff rfl ?_
  simp only [List.getElem_toArray, List.getElem_cons_zero, List.getElem_cons_succ]
  go_wp2_with fail
  refine (number_any _ _ (by have := turnZ_abs k; omega) (by have := turnZ_abs k; omega) w7).mono ?_
  rintro e w8 ⟨y0, y1, rfl, hy0, hy1, hb8⟩
  have HR8 := Lib.hid (show Below w5.heap.size w5 w8 from HR7.out.trans (hb8.mono (B' := w5.heap.size) HR7.out.size))
  have qn := eql_c_neq (turnB k).1 (turnB k).2 y0 y1
  rw [(turn_is k).1.eq hy0, (turn_is k).2.eq hy1] at qn
  simp only [decide_true, Bool.and_self, Bool.not_true] at qn
  clear hy0 hy1
  go_wp2_with fail
  refine mixQ_normal (KeepsBut.of_below hb8) rfl ?_
  clear hb8
  have qS0 := fun w' (hk : KeepsBut [] w8 w') => hk.cell (p := ⟨g5, 0, none⟩) (v := .int .u64 a) (by exact (HR8.out.cell (p := ⟨g5, 0, none⟩) Zg5.out).trans S0.out) (by simp)
  have qS1 := fun w' (hk : KeepsBut [] w8 w') => hk.cell (p := ⟨g5, 1, none⟩) (v := .int .u64 b) (by exact (HR8.out.cell (p := ⟨g5, 1, none⟩) Zg5.out).trans S1.out) (by simp)
  have qR0 := fun w' (hk : KeepsBut [] w8 w') => hk.cell (p := ⟨g6, 0, none⟩) (v := .int .u64 a) (by exact (HR8.out.cell (p := ⟨g6, 0, none⟩) Zg6.out).trans R0.out) (by simp)
  have qR1 := fun w' (hk : KeepsBut [] w8 w') => hk.cell (p := ⟨g6, 1, none⟩) (v := .int .u64 b) (by exact (HR8.out.cell (p := ⟨g6, 1, none⟩) Zg6.out).trans R1.out) (by simp)
  repeat (first
    | (refine mix_pure (v := ?_) rfl rfl ?_ (mix_norm (a' := ?_) ?_ ?_)
       rotate_left
       focus (intro w' hR; go_simp; first | done | (with_reducible rfl))
       rotate_left
       focus (simp only [Act.put, List.getElem_toArray, List.getElem_cons_zero, List.getElem_cons_succ, List.setIfInBounds_toArray, List.set_cons_zero, List.set_cons_succ]; rfl))
    | (refine mix_off rfl rfl (mix_norm (a' := ?_) ?_ ?_)
       rotate_left
       focus (simp only [Act.put, List.getElem_toArray, List.getElem_cons_zero, List.getElem_cons_succ, List.setIfInBounds_toArray, List.set_cons_zero, List.set_cons_succ]; rfl)))
  clear qn
  clear qS0 qS1 qR0 qR1
  refine mix_eff rfl ?_
  simp only [List.getElem_toArray, List.getElem_cons_zero, List.getElem_cons_succ]
  go_wp2_with fail
  refine (mark_any a b Ha.out Hb.out w8 (tab_below HT5.out HR8.out (tab_lt HT5.out))).mono ?_
  rintro e w9 ⟨m0, m1, rfl, hm0, hm1, hb9⟩
  have HR9 := Lib.hid (show Below w5.heap.size w5 w9 from HR8.out.trans (hb9.mono (B' := w5.heap.size) HR8.out.size))
  have HM := Lib.hid (And.intro hm0 hm1)
  clear hm0 hm1
  go_wp2_with fail
  refine mixQ_normal (KeepsBut.of_below hb9) rfl ?_
  clear hb9
  refine mix_eff rfl ?_
  simp only [List.getElem_toArray, List.getElem_cons_zero, List.getElem_cons_succ]
  go_wp2_with fail
  refine (refMark_any a b Ha.out Hb.out w9).mono ?_
  rintro e w10 ⟨rfl, hb10⟩
  have HR10 := Lib.hid (show Below w5.heap.size w5 w10 from HR9.out.trans (hb10.mono (B' := w5.heap.size) HR9.out.size))
  go_wp2_with fail
  refine mixQ_normal (KeepsBut.of_below hb10) rfl ?_
  clear hb10
  refine mix_eff rfl ?_
  simp only [List.getElem_toArray, List.getElem_cons_zero, List.getElem_cons_succ]
  go_wp2_with fail
  refine (number_any _ _ (by have := tre_abs (lst a b); omega) (by have := tre_abs (lst a b); omega) w10).mono ?_
  rintro e w11 ⟨n0, n1, rfl, hn0, hn1, hb11⟩
  have HR11 := Lib.hid (show Below w5.heap.size w5 w11 from HR10.out.trans (hb11.mono (B' := w5.heap.size) HR10.out.size))
  have qn := eql_c_neq m0 m1 n0 n1
  rw [HM.out.1.eq hn0, HM.out.2.eq hn1] at qn
  simp only [decide_true, Bool.and_self, Bool.not_true] at qn
  clear hn0 hn1
  go_wp2_with fail
  refine mixQ_normal (KeepsBut.of_below hb11) rfl ?_
  clear hb11
  have qR0 := fun w' (hk : KeepsBut [] w11 w') => hk.cell (p := ⟨g6, 0, none⟩) (v := .int .u64 a) (by exact (HR11.out.cell (p := ⟨g6, 0, none⟩) Zg6.out).trans R0.out) (by simp)
  have qR1 := fun w' (hk : KeepsBut [] w11 w') => hk.cell (p := ⟨g6, 1, none⟩) (v := .int .u64 b) (by exact (HR11.out.cell (p := ⟨g6, 1, none⟩) Zg6.out).trans R1.out) (by simp)
  have qX0 := fun w' (hk : KeepsBut [] w11 w') => hk.cell (p := ⟨g7, 0, none⟩) (v := .float .f64 x0) (by exact (HR11.out.cell (p := ⟨g7, 0, none⟩) Zg7.out).trans X0.out) (by simp)
  have qX1 := fun w' (hk : KeepsBut [] w11 w') => hk.cell (p := ⟨g7, 1, none⟩) (v := .float .f64 x1) (by exact (HR11.out.cell (p := ⟨g7, 1, none⟩) Zg7.out).trans X1.out) (by simp)
  have qX2 := fun w' (hk : KeepsBut [] w11 w') => hk.cell (p := ⟨g7, 2, none⟩) (v := .float .f64 x2) (by exact (HR11.out.cell (p := ⟨g7, 2, none⟩) Zg7.out).trans X2.out) (by simp)
  have qX3 := fun w' (hk : KeepsBut [] w11 w') => hk.cell (p := ⟨g7, 3, none⟩) (v := .float .f64 x3) (by exact (HR11.out.cell (p := ⟨g7, 3, none⟩) Zg7.out).trans X3.out) (by simp)
  repeat (first
    | (refine mix_pure (v := ?_) rfl rfl ?_ (mix_norm (a' := ?_) ?_ ?_)
       rotate_left
       focus (intro w' hR; go_simp; first | done | (with_reducible rfl))
       rotate_left
       focus (simp only [Act.put, List.getElem_toArray, List.getElem_cons_zero, List.getElem_cons_succ, List.setIfInBounds_toArray, List.set_cons_zero, List.set_cons_succ]; rfl))
    | (refine mix_off rfl rfl (mix_norm (a' := ?_) ?_ ?_)
       rotate_left
       focus (simp only [Act.put, List.getElem_toArray, List.getElem_cons_zero, List.getElem_cons_succ, List.setIfInBounds_toArray, List.set_cons_zero, List.set_cons_succ]; rfl)))
  clear qn
  clear qR0 qR1 qX0 qX1 qX2 qX3
  refine mix_eff rfl ?_
  simp only [List.getElem_toArray, List.getElem_cons_zero, List.getElem_cons_succ]
  go_wp2_with fail
  refine (refLanes_any a b Ha.out Hb.out w11).mono ?_
  rintro e w12 ⟨rfl, hb12⟩
  have HR12 := Lib.hid (show Below w5.heap.size w5 w12 from HR11.out.trans (hb12.mono (B' := w5.heap.size) HR11.out.size))
  go_wp2_with fail
  refine mixQ_normal (KeepsBut.of_below hb12) rfl ?_
  clear hb12
  refine mix_eff rfl ?_
  simp only [List.getElem_toArray, List.getElem_cons_zero, List.getElem_cons_succ]
  go_wp2_with fail
  refine (whole_any _ _ _ _ (by have := cnt_le 0 (lst a b); omega) (by have := cnt_le 1 (lst a b); omega) (by have := cnt_le 2 (lst a b); omega) (by have := cnt_le 3 (lst a b); omega) w12).mono ?_
  rintro e w13 ⟨z0, z1, z2, z3, rfl, hz, hb13⟩
  have HR13 := Lib.hid (show Below w5.heap.size w5 w13 from HR12.out.trans (hb13.mono (B' := w5.heap.size) HR12.out.size))
  have qn := neq_f4' x0 x1 x2 x3 z0 z1 z2 z3
  rw [Hx.out.1.eq hz.1, Hx.out.2.1.eq hz.2.1, Hx.out.2.2.1.eq hz.2.2.1, Hx.out.2.2.2.eq hz.2.2.2] at qn
  simp only [decide_true, Bool.and_self, Bool.not_true] at qn
  clear hz
  go_wp2_with fail
  refine mixQ_normal (KeepsBut.of_below hb13) rfl ?_
  clear hb13
  repeat (first
    | (refine mix_pure (v := ?_) rfl rfl ?_ (mix_norm (a' := ?_) ?_ ?_)
       rotate_left
       focus (intro w' hR; go_simp; first | done | (with_reducible rfl))
       rotate_left
       focus (simp only [Act.put, List.getElem_toArray, List.getElem_cons_zero, List.getElem_cons_succ, List.setIfInBounds_toArray, List.set_cons_zero, List.set_cons_succ]; rfl))
    | (refine mix_off rfl rfl (mix_norm (a' := ?_) ?_ ?_)
       rotate_left
       focus (simp only [Act.put, List.getElem_toArray, List.getElem_cons_zero, List.getElem_cons_succ, List.setIfInBounds_toArray, List.set_cons_zero, List.set_cons_succ]; rfl)))
  clear qn
  refine mix_done ?_
  go_wp2_with fail
  clear HR HR6 HR7 HR8 HR9 HR10 HR11 HR12
  go_loopw [9, 10] (fun s i wr => ∃ (j u v : Nat), j ≤ 4 ∧ s = .complex .f64 u v ∧ i = .int .i64 j ∧ Hid (IsI u (psum (lst a b) j).1 ∧ IsI v (psum (lst a b) j).2) ∧ Hid (Below w5.heap.size w5 wr)) (fun _ i _ => 4 - (intOf i).toNat)
  case atStart => exact ⟨0, 0, 0, by omega, rfl, rfl, ⟨IsI.zero, IsI.zero⟩, HR13⟩
  case round =>
    clear HR13
    obtain ⟨j, u, v, hj, rfl, rfl, Huv, HRr⟩ := hrel
    rcases (by omega : j = 0 ∨ j = 1 ∨ j = 2 ∨ j = 3 ∨ j = 4) with rfl | rfl | rfl | rfl | rfl
    · rw [show ((0 : Nat) : Int) = 0 from rfl]
      have kx := (HRr.out.cell (p := ⟨g7, 0, none⟩) Zg7.out).trans X0.out
      have hab := psum_abs (lst a b) hl 0
      have hcn := cnt_le 0 (lst a b)
      obtain ⟨t1, t2⟩ := turn_is 0
      obtain ⟨u1, u2⟩ := turnZ_abs 0
      obtain ⟨re, im, hmul, hre, him⟩ := cmul_is (x := x0) (y := 0) Hx.out.1 IsI.zero t1 t2 (by omega) (by simp) u1 u2
      rw [Int.zero_mul, Int.sub_zero] at hre
      rw [Int.zero_mul, Int.add_zero] at him
      have mm (q : Int) (hq : q.natAbs ≤ 1) : (cnt 0 (lst a b) * q).natAbs ≤ 128 := by
        rw [Int.natAbs_mul]
        have : (cnt 0 (lst a b)).natAbs ≤ 128 := by omega
        exact Nat.le_trans (Nat.mul_le_mul this hq) (by omega)
      have m1 := mm _ u1
      have m2 := mm _ u2
      obtain ⟨sr, hsr, isr⟩ := Huv.out.1.add hre (by omega)
      obtain ⟨si, hsi, isi⟩ := Huv.out.2.add him (by omega)
      have Hnew : Hid (IsI sr (psum (lst a b) (0 + 1)).1 ∧ IsI si (psum (lst a b) (0 + 1)).2) := Lib.hid ⟨isr, isi⟩
      have hcall := fun W : World => turn_any 0 W
      generalize turnB 0 = tb at hcall t1 t2 hmul
      obtain ⟨tb0, tb1⟩ := tb
      have qm := fun W : World => run_complex_mul (P := Tryd.prog) W 31 x0 0 tb0 tb1 re im hmul
      have qa := fun W : World => run_complex_sum (P := Tryd.prog) W .add (.inl rfl) 31 .f64 u v re im sr si (by unfold cSumBits; rw [hsr, hsi]; rfl)
      clear hab hcn t1 t2 u1 u2 hmul hre him mm m1 m2 hsr isr hsi isi
      go_wp2_with fail
      have qx := fun w' (hk : KeepsBut [] wr.drew w') => hk.cell (p := ⟨g7, 0, none⟩) (v := .float .f64 x0) (by exact kx) (by simp)
      refine wp_region_mix (KeepsBut []) (KeepsBut.refl []) (KeepsBut.trans []) [] [(true, 0), (true, 1), (true, 2), (true, 3), (true, 4), (true, 5), (false, 6), (true, 7), (true, 8), (true, 9)] (by kernel_rfl) (by kernel_rfl) (fun d _ _ _ _ h => by cases d <;> exact h) ?_
      repeat (first
        | (refine mix_pure (v := ?_) rfl rfl ?_ (mix_norm (a' := ?_) ?_ ?_)
           rotate_left
           focus (intro w' hR; go_simp; first | done | (with_reducible rfl))
           rotate_left
           focus (simp only [Act.put, List.getElem_toArray, List.getElem_cons_zero, List.getElem_cons_succ, List.setIfInBounds_toArray, List.set_cons_zero, List.set_cons_succ]; rfl))
        | (refine mix_off rfl rfl (mix_norm (a' := ?_) ?_ ?_)
           rotate_left
           focus (simp only [Act.put, List.getElem_toArray, List.getElem_cons_zero, List.getElem_cons_succ, List.setIfInBounds_toArray, List.set_cons_zero, List.set_cons_succ]; rfl)))
      clear qx kx
      refine mix_eff rfl ?_
      simp only [List.getElem_toArray, List.getElem_cons_zero, List.getElem_cons_succ]
      go_wp2_with fail
      refine (hcall wr.drew).mono ?_
      rintro e w6 ⟨rfl, hb6⟩
      have HR6 := Lib.hid (show Below w5.heap.size w5 w6 from HRr.out.drew.trans (hb6.mono (B' := w5.heap.size) HRr.out.drew.size))
      go_wp2_with fail
      refine mixQ_normal (KeepsBut.of_below hb6) rfl ?_
      clear hb6 hcall
      repeat (first
        | (refine mix_pure (v := ?_) rfl rfl ?_ (mix_norm (a' := ?_) ?_ ?_)
           rotate_left
           focus (intro w' hR; go_simp; first | done | (with_reducible rfl))
           rotate_left
           focus (simp only [Act.put, List.getElem_toArray, List.getElem_cons_zero, List.getElem_cons_succ, List.setIfInBounds_toArray, List.set_cons_zero, List.set_cons_succ]; rfl))
        | (refine mix_off rfl rfl (mix_norm (a' := ?_) ?_ ?_)
           rotate_left
           focus (simp only [Act.put, List.getElem_toArray, List.getElem_cons_zero, List.getElem_cons_succ, List.setIfInBounds_toArray, List.set_cons_zero, List.set_cons_succ]; rfl)))
      clear qm qa
      refine mix_done ?_
      go_wp2_with fail
      case roundEnd =>
        exact ⟨⟨0 + 1, sr, si, by omega, rfl, rfl, Hnew, HR6⟩, by simp [intOf]⟩
    · rw [show ((1 : Nat) : Int) = 1 from rfl]
      have kx := (HRr.out.cell (p := ⟨g7, 1, none⟩) Zg7.out).trans X1.out
      have hab := psum_abs (lst a b) hl 1
      have hcn := cnt_le 1 (lst a b)
      obtain ⟨t1, t2⟩ := turn_is 1
      obtain ⟨u1, u2⟩ := turnZ_abs 1
      obtain ⟨re, im, hmul, hre, him⟩ := cmul_is (x := x1) (y := 0) Hx.out.2.1 IsI.zero t1 t2 (by omega) (by simp) u1 u2
      rw [Int.zero_mul, Int.sub_zero] at hre
      rw [Int.zero_mul, Int.add_zero] at him
      have mm (q : Int) (hq : q.natAbs ≤ 1) : (cnt 1 (lst a b) * q).natAbs ≤ 128 := by
        rw [Int.natAbs_mul]
        have : (cnt 1 (lst a b)).natAbs ≤ 128 := by omega
        exact Nat.le_trans (Nat.mul_le_mul this hq) (by omega)
      have m1 := mm _ u1
      have m2 := mm _ u2
      obtain ⟨sr, hsr, isr⟩ := Huv.out.1.add hre (by omega)
      obtain ⟨si, hsi, isi⟩ := Huv.out.2.add him (by omega)
      have Hnew : Hid (IsI sr (psum (lst a b) (1 + 1)).1 ∧ IsI si (psum (lst a b) (1 + 1)).2) := Lib.hid ⟨isr, isi⟩
      have hcall := fun W : World => turn_any 1 W
      generalize turnB 1 = tb at hcall t1 t2 hmul
      obtain ⟨tb0, tb1⟩ := tb
      have qm := fun W : World => run_complex_mul (P := Tryd.prog) W 31 x1 0 tb0 tb1 re im hmul
      have qa := fun W : World => run_complex_sum (P := Tryd.prog) W .add (.inl rfl) 31 .f64 u v re im sr si (by unfold cSumBits; rw [hsr, hsi]; rfl)
      clear hab hcn t1 t2 u1 u2 hmul hre him mm m1 m2 hsr isr hsi isi
      go_wp2_with fail
      have qx := fun w' (hk : KeepsBut [] wr.drew w') => hk.cell (p := ⟨g7, 1, none⟩) (v := .float .f64 x1) (by exact kx) (by simp)
      refine wp_region_mix (KeepsBut []) (KeepsBut.refl []) (KeepsBut.trans []) [] [(true, 0), (true, 1), (true, 2), (true, 3), (true, 4), (true, 5), (false, 6), (true, 7), (true, 8), (true, 9)] (by kernel_rfl) (by kernel_rfl) (fun d _ _ _ _ h => by cases d <;> exact h) ?_
      repeat (first
        | (refine mix_pure (v := ?_) rfl rfl ?_ (mix_norm (a' := ?_) ?_ ?_)
           rotate_left
           focus (intro w' hR; go_simp; first | done | (with_reducible rfl))
           rotate_left
           focus (simp only [Act.put, List.getElem_toArray, List.getElem_cons_zero, List.getElem_cons_succ, List.setIfInBounds_toArray, List.set_cons_zero, List.set_cons_succ]; rfl))
        | (refine mix_off rfl rfl (mix_norm (a' := ?_) ?_ ?_)
           rotate_left
           focus (simp only [Act.put, List.getElem_toArray, List.getElem_cons_zero, List.getElem_cons_succ, List.setIfInBounds_toArray, List.set_cons_zero, List.set_cons_succ]; rfl)))
      clear qx kx
      refine mix_eff rfl ?_
      simp only [List.getElem_toArray, List.getElem_cons_zero, List.getElem_cons_succ]
      go_wp2_with fail
      refine (hcall wr.drew).mono ?_
      rintro e w6 ⟨rfl, hb6⟩
      have HR6 := Lib.hid (show Below w5.heap.size w5 w6 from HRr.out.drew.trans (hb6.mono (B' := w5.heap.size) HRr.out.drew.size))
      go_wp2_with fail
      refine mixQ_normal (KeepsBut.of_below hb6) rfl ?_
      clear hb6 hcall
      repeat (first
        | (refine mix_pure (v := ?_) rfl rfl ?_ (mix_norm (a' := ?_) ?_ ?_)
           rotate_left
           focus (intro w' hR; go_simp; first | done | (with_reducible rfl))
           rotate_left
           focus (simp only [Act.put, List.getElem_toArray, List.getElem_cons_zero, List.getElem_cons_succ, List.setIfInBounds_toArray, List.set_cons_zero, List.set_cons_succ]; rfl))
        | (refine mix_off rfl rfl (mix_norm (a' := ?_) ?_ ?_)
           rotate_left
           focus (simp only [Act.put, List.getElem_toArray, List.getElem_cons_zero, List.getElem_cons_succ, List.setIfInBounds_toArray, List.set_cons_zero, List.set_cons_succ]; rfl)))
      clear qm qa
      refine mix_done ?_
      go_wp2_with fail
      case roundEnd =>
        exact ⟨⟨1 + 1, sr, si, by omega, rfl, rfl, Hnew, HR6⟩, by simp [intOf]⟩
    · rw [show ((2 : Nat) : Int) = 2 from rfl]
      have kx := (HRr.out.cell (p := ⟨g7, 2, none⟩) Zg7.out).trans X2.out
      have hab := psum_abs (lst a b) hl 2
      have hcn := cnt_le 2 (lst a b)
      obtain ⟨t1, t2⟩ := turn_is 2
      obtain ⟨u1, u2⟩ := turnZ_abs 2
      obtain ⟨re, im, hmul, hre, him⟩ := cmul_is (x := x2) (y := 0) Hx.out.2.2.1 IsI.zero t1 t2 (by omega) (by simp) u1 u2
      rw [Int.zero_mul, Int.sub_zero] at hre
      rw [Int.zero_mul, Int.add_zero] at him
      have mm (q : Int) (hq : q.natAbs ≤ 1) : (cnt 2 (lst a b) * q).natAbs ≤ 128 := by
        rw [Int.natAbs_mul]
        have : (cnt 2 (lst a b)).natAbs ≤ 128 := by omega
        exact Nat.le_trans (Nat.mul_le_mul this hq) (by omega)
      have m1 := mm _ u1
      have m2 := mm _ u2
      obtain ⟨sr, hsr, isr⟩ := Huv.out.1.add hre (by omega)
      obtain ⟨si, hsi, isi⟩ := Huv.out.2.add him (by omega)
      have Hnew : Hid (IsI sr (psum (lst a b) (2 + 1)).1 ∧ IsI si (psum (lst a b) (2 + 1)).2) := Lib.hid ⟨isr, isi⟩
      have hcall := fun W : World => turn_any 2 W
      generalize turnB 2 = tb at hcall t1 t2 hmul
      obtain ⟨tb0, tb1⟩ := tb
      have qm := fun W : World => run_complex_mul (P := Tryd.prog) W 31 x2 0 tb0 tb1 re im hmul
      have qa := fun W : World => run_complex_sum (P := Tryd.prog) W .add (.inl rfl) 31 .f64 u v re im sr si (by unfold cSumBits; rw [hsr, hsi]; rfl)
      clear hab hcn t1 t2 u1 u2 hmul hre him mm m1 m2 hsr isr hsi isi
      go_wp2_with fail
      have qx := fun w' (hk : KeepsBut [] wr.drew w') => hk.cell (p := ⟨g7, 2, none⟩) (v := .float .f64 x2) (by exact kx) (by simp)
      refine wp_region_mix (KeepsBut []) (KeepsBut.refl []) (KeepsBut.trans []) [] [(true, 0), (true, 1), (true, 2), (true, 3), (true, 4), (true, 5), (false, 6), (true, 7), (true, 8), (true, 9)] (by kernel_rfl) (by kernel_rfl) (fun d _ _ _ _ h => by cases d <;> exact h) ?_
      repeat (first
        | (refine mix_pure (v := ?_) rfl rfl ?_ (mix_norm (a' := ?_) ?_ ?_)
           rotate_left
           focus (intro w' hR; go_simp; first | done | (with_reducible rfl))
           rotate_left
           focus (simp only [Act.put, List.getElem_toArray, List.getElem_cons_zero, List.getElem_cons_succ, List.setIfInBounds_toArray, List.set_cons_zero, List.set_cons_succ]; rfl))
        | (refine mix_off rfl rfl (mix_norm (a' := ?_) ?_ ?_)
           rotate_left
           focus (simp only [Act.put, List.getElem_toArray, List.getElem_cons_zero, List.getElem_cons_succ, List.setIfInBounds_toArray, List.set_cons_zero, List.set_cons_succ]; rfl)))
      clear qx kx
      refine mix_eff rfl ?_
      simp only [List.getElem_toArray, List.getElem_cons_zero, List.getElem_cons_succ]
      go_wp2_with fail
      refine (hcall wr.drew).mono ?_
      rintro e w6 ⟨rfl, hb6⟩
      have HR6 := Lib.hid (show Below w5.heap.size w5 w6 from HRr.out.drew.trans (hb6.mono (B' := w5.heap.size) HRr.out.drew.size))
      go_wp2_with fail
      refine mixQ_normal (KeepsBut.of_below hb6) rfl ?_
      clear hb6 hcall
      repeat (first
        | (refine mix_pure (v := ?_) rfl rfl ?_ (mix_norm (a' := ?_) ?_ ?_)
           rotate_left
           focus (intro w' hR; go_simp; first | done | (with_reducible rfl))
           rotate_left
           focus (simp only [Act.put, List.getElem_toArray, List.getElem_cons_zero, List.getElem_cons_succ, List.setIfInBounds_toArray, List.set_cons_zero, List.set_cons_succ]; rfl))
        | (refine mix_off rfl rfl (mix_norm (a' := ?_) ?_ ?_)
           rotate_left
           focus (simp only [Act.put, List.getElem_toArray, List.getElem_cons_zero, List.getElem_cons_succ, List.setIfInBounds_toArray, List.set_cons_zero, List.set_cons_succ]; rfl)))
      clear qm qa
      refine mix_done ?_
      go_wp2_with fail
      case roundEnd =>
        exact ⟨⟨2 + 1, sr, si, by omega, rfl, rfl, Hnew, HR6⟩, by simp [intOf]⟩
    · rw [show ((3 : Nat) : Int) = 3 from rfl]
      have kx := (HRr.out.cell (p := ⟨g7, 3, none⟩) Zg7.out).trans X3.out
      have hab := psum_abs (lst a b) hl 3
      have hcn := cnt_le 3 (lst a b)
      obtain ⟨t1, t2⟩ := turn_is 3
      obtain ⟨u1, u2⟩ := turnZ_abs 3
      obtain ⟨re, im, hmul, hre, him⟩ := cmul_is (x := x3) (y := 0) Hx.out.2.2.2 IsI.zero t1 t2 (by omega) (by simp) u1 u2
      rw [Int.zero_mul, Int.sub_zero] at hre
      rw [Int.zero_mul, Int.add_zero] at him
      have mm (q : Int) (hq : q.natAbs ≤ 1) : (cnt 3 (lst a b) * q).natAbs ≤ 128 := by
        rw [Int.natAbs_mul]
        have : (cnt 3 (lst a b)).natAbs ≤ 128 := by omega
        exact Nat.le_trans (Nat.mul_le_mul this hq) (by omega)
      have m1 := mm _ u1
      have m2 := mm _ u2
      obtain ⟨sr, hsr, isr⟩ := Huv.out.1.add hre (by omega)
      obtain ⟨si, hsi, isi⟩ := Huv.out.2.add him (by omega)
      have Hnew : Hid (IsI sr (psum (lst a b) (3 + 1)).1 ∧ IsI si (psum (lst a b) (3 + 1)).2) := Lib.hid ⟨isr, isi⟩
      have hcall := fun W : World => turn_any 3 W
      generalize turnB 3 = tb at hcall t1 t2 hmul
      obtain ⟨tb0, tb1⟩ := tb
      have qm := fun W : World => run_complex_mul (P := Tryd.prog) W 31 x3 0 tb0 tb1 re im hmul
      have qa := fun W : World => run_complex_sum (P := Tryd.prog) W .add (.inl rfl) 31 .f64 u v re im sr si (by unfold cSumBits; rw [hsr, hsi]; rfl)
      clear hab hcn t1 t2 u1 u2 hmul hre him mm m1 m2 hsr isr hsi isi
      go_wp2_with fail
      have qx := fun w' (hk : KeepsBut [] wr.drew w') => hk.cell (p := ⟨g7, 3, none⟩) (v := .float .f64 x3) (by exact kx) (by simp)
      refine wp_region_mix (KeepsBut []) (KeepsBut.refl []) (KeepsBut.trans []) [] [(true, 0), (true, 1), (true, 2), (true, 3), (true, 4), (true, 5), (false, 6), (true, 7), (true, 8), (true, 9)] (by kernel_rfl) (by kernel_rfl) (fun d _ _ _ _ h => by cases d <;> exact h) ?_
      repeat (first
        | (refine mix_pure (v := ?_) rfl rfl ?_ (mix_norm (a' := ?_) ?_ ?_)
           rotate_left
           focus (intro w' hR; go_simp; first | done | (with_reducible rfl))
           rotate_left
           focus (simp only [Act.put, List.getElem_toArray, List.getElem_cons_zero, List.getElem_cons_succ, List.setIfInBounds_toArray, List.set_cons_zero, List.set_cons_succ]; rfl))
        | (refine mix_off rfl rfl (mix_norm (a' := ?_) ?_ ?_)
           rotate_left
           focus (simp only [Act.put, List.getElem_toArray, List.getElem_cons_zero, List.getElem_cons_succ, List.setIfInBounds_toArray, List.set_cons_zero, List.set_cons_succ]; rfl)))
      clear qx kx
      refine mix_eff rfl ?_
      simp only [List.getElem_toArray, List.getElem_cons_zero, List.getElem_cons_succ]
      go_wp2_with fail
      refine (hcall wr.drew).mono ?_
      rintro e w6 ⟨rfl, hb6⟩
      have HR6 := Lib.hid (show Below w5.heap.size w5 w6 from HRr.out.drew.trans (hb6.mono (B' := w5.heap.size) HRr.out.drew.size))
      go_wp2_with fail
      refine mixQ_normal (KeepsBut.of_below hb6) rfl ?_
      clear hb6 hcall
      repeat (first
        | (refine mix_pure (v := ?_) rfl rfl ?_ (mix_norm (a' := ?_) ?_ ?_)
           rotate_left
           focus (intro w' hR; go_simp; first | done | (with_reducible rfl))
           rotate_left
           focus (simp only [Act.put, List.getElem_toArray, List.getElem_cons_zero, List.getElem_cons_succ, List.setIfInBounds_toArray, List.set_cons_zero, List.set_cons_succ]; rfl))
        | (refine mix_off rfl rfl (mix_norm (a' := ?_) ?_ ?_)
           rotate_left
           focus (simp only [Act.put, List.getElem_toArray, List.getElem_cons_zero, List.getElem_cons_succ, List.setIfInBounds_toArray, List.set_cons_zero, List.set_cons_succ]; rfl)))
      clear qm qa
      refine mix_done ?_
      go_wp2_with fail
      case roundEnd =>
        exact ⟨⟨3 + 1, sr, si, by omega, rfl, rfl, Hnew, HR6⟩, by simp [intOf]⟩
    · rw [show ((4 : Nat) : Int) = 4 from rfl]
      have hps := Huv.out
      rw [psum_four] at hps
      have HS := Lib.hid hps
      have hy := Hy.out
      have q1 := eql_c a1 c1 0 0
      rw [hy.2.1.eq IsI.zero, hy.2.2.1.eq IsI.zero] at q1
      have q2 := eql_c a2 0 0 0
      rw [hy.2.2.2.1.eq IsI.zero, IsI.zero.eq IsI.zero] at q2
      have q3 := eql_c a3 c3 0 0
      rw [hy.2.2.2.2.1.eq IsI.zero, hy.2.2.2.2.2.eq IsI.zero] at q3
      have q4 := eql_c a3 c3 u v
      rw [hy.2.2.2.2.1.eq hps.1, hy.2.2.2.2.2.eq hps.2, ← (sums_lanes (lst a b)).1, ← (sums_lanes (lst a b)).2] at q4
      simp only [decide_true, Bool.and_self, Bool.and_true] at q2 q4
      have hal := alike_waves (lst a b)
      generalize (decide (cnt 0 (lst a b) - cnt 2 (lst a b) = 0) && decide (-(cnt 1 (lst a b) - cnt 3 (lst a b)) = 0)) = e1 at q1 hal
      generalize decide (cnt 0 (lst a b) + cnt 2 (lst a b) - (cnt 1 (lst a b) + cnt 3 (lst a b)) = 0) = e2 at q2 hal
      generalize (decide (cnt 0 (lst a b) - cnt 2 (lst a b) = 0) && decide (cnt 1 (lst a b) - cnt 3 (lst a b) = 0)) = e3 at q3 hal
      have Hal := Lib.hid hal
      clear hal hps hy
      have kS0 := (HRr.out.cell (p := ⟨g5, 0, none⟩) Zg5.out).trans S0.out
      have kS1 := (HRr.out.cell (p := ⟨g5, 1, none⟩) Zg5.out).trans S1.out
      have kC1 := (HRr.out.cell (p := ⟨g8, 1, none⟩) Zg8.out).trans C1.out
      have kC2 := (HRr.out.cell (p := ⟨g8, 2, none⟩) Zg8.out).trans C2.out
      have kC3 := (HRr.out.cell (p := ⟨g8, 3, none⟩) Zg8.out).trans C3.out
      have HTr := Lib.hid (tab_below HT5.out HRr.out (tab_lt HT5.out))
      cases e1 <;> cases e2 <;> cases e3
      all_goals
        go_wp2_with fail
        refine (mark_any a b Ha.out Hb.out wr HTr.out).mono ?_
        rintro e w6 ⟨m0, m1, rfl, hm0, hm1, hb6⟩
        have q5 := eql_c u v m0 m1
        rw [HS.out.1.eq hm0, HS.out.2.eq hm1] at q5
        simp only [decide_true, Bool.and_self] at q5
        have HR6 := Lib.hid (show Below w5.heap.size w5 w6 from HRr.out.trans (hb6.mono (B' := w5.heap.size) HRr.out.size))
        clear hb6 hm0 hm1 kS0 kS1 kC1 kC2 kC3
        have kS0 := (HR6.out.cell (p := ⟨g5, 0, none⟩) Zg5.out).trans S0.out
        have kS1 := (HR6.out.cell (p := ⟨g5, 1, none⟩) Zg5.out).trans S1.out
        have kC3 := (HR6.out.cell (p := ⟨g8, 3, none⟩) Zg8.out).trans C3.out
        go_wp2_with fail
        refine (even_any a b Ha.out Hb.out w6 (tab_below HT5.out HR6.out (tab_lt HT5.out))).mono ?_
        rintro e w7 ⟨rfl, hb7⟩
        have HR7 := Lib.hid (show Below w5.heap.size w5 w7 from HR6.out.trans (hb7.mono (B' := w5.heap.size) HR6.out.size))
        clear hb7 kS0 kS1 kC3
        rw [Hal.out]
        go_wp2_with fail
        refine (known35_any w7 (tab_below HT5.out HR7.out (tab_lt HT5.out))).mono ?_
        rintro e w8 ⟨rfl, hb8⟩
        go_wp2_with fail
        go_ret
        exact ⟨rfl, HB5.out.trans ((HR7.out.trans (hb8.mono (B' := w5.heap.size) HR7.out.size)).mono HB5.out.size)⟩
end Go.Proofs.YtlfclpdcingpnaaDoor
