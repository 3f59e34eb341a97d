/- Are lanes alike; the fixed calls. -/
import Derived.Test.YtlfclpdcingpnaaDoorLanes
open Go.RowKit
namespace Go.Proofs.YtlfclpdcingpnaaDoor
attribute [local go_sem] store_f store_c

theorem part_f (xs : Array Value) (k : Nat) (v : Value) (h : xs[k]? = some v) (W : World) : (part 36 xs k).run Tryd.prog W = .ok v W := by
  have hag : (isAgg 36).run Tryd.prog W = .ok false W := by kernel_rfl
  simp [part, hag, h]
theorem eql_f4' (a0 a1 a2 a3 b0 b1 b2 b3 : Nat) (W : World) :
    (binOp .eql 37 (.agg #[.float .f64 a0, .float .f64 a1, .float .f64 a2, .float .f64 a3]) (.agg #[.float .f64 b0, .float .f64 b1, .float .f64 b2, .float .f64 b3])).run Tryd.prog W = .ok (.bool (Op.floatEq .f64 a0 b0 && (Op.floatEq .f64 a1 b1 && (Op.floatEq .f64 a2 b2 && Op.floatEq .f64 a3 b3)))) W :=
  eql_f4 Tryd.underlying37 Tryd.underlying36 part_f (by kernel_rfl) (by kernel_rfl) a0 a1 a2 a3 b0 b1 b2 b3 W

/-- Are the lanes of a list alike? -/
def alike (l : List Nat) : Bool := decide (cnt 0 l = cnt 0 l) && (decide (cnt 1 l = cnt 0 l) && (decide (cnt 2 l = cnt 0 l) && decide (cnt 3 l = cnt 0 l)))

set_option maxRecDepth 100000 in
theorem even_any (a b : Nat) (ha : a < 18446744073709551616) (hb : b < 18446744073709551616) (w : World) (hT : TabAt 0 Lib.deBruijn64tab w) :
    Calls Tryd.prog 19 #[.agg #[.int .u64 a, .int .u64 b]] w fun e w' => e = .returned (.bool (alike (lst a b))) ∧ Below w.heap.size w w' := by
  have Ha := Lib.hid ha
  have Hb := Lib.hid hb
  have HT := Lib.hid hT
  clear ha hb hT
  have hb1 := (Below.refl w.heap.size w).alloc (Nat.le_refl _) (.cells #[.int .u64 a, .int .u64 b] 33)
  have hs1 : (w.alloc (.cells #[.int .u64 a, .int .u64 b] 33)).heap.size = w.heap.size + 1 := size_alloc _ _
  go_enter Tryd.func19, Tryd.ntmps19
  go_wp2_with fail
  generalize w.alloc (.cells #[.int .u64 a, .int .u64 b] 33) = w1 at hb1 hs1 ⊢
  have HT1 := Lib.hid (tab_below HT.out hb1 (tab_lt HT.out))
  have Hb1 := Lib.hid hb1
  have Hs1 := Lib.hid hs1
  clear hb1 hs1 HT
  refine (lanes_any a b Ha.out Hb.out w1 HT1.out).mono ?_
  rintro e w2 ⟨x0, x1, x2, x3, rfl, hx, hb2⟩
  have heq := eql_f4' x0 x1 x2 x3 x0 x0 x0 x0
  rw [hx.1.eq hx.1, hx.2.1.eq hx.1, hx.2.2.1.eq hx.1, hx.2.2.2.eq hx.1] at heq
  have Heq : Hid ((decide (cnt 0 (lst a b) = cnt 0 (lst a b)) && (decide (cnt 1 (lst a b) = cnt 0 (lst a b)) && (decide (cnt 2 (lst a b) = cnt 0 (lst a b)) && decide (cnt 3 (lst a b) = cnt 0 (lst a b))))) = alike (lst a b)) := rfl
  rw [Heq.out] at heq
  have Hb2 := Lib.hid (Hb1.out.trans (hb2.mono (by rw [Hs1.out]; omega)))
  clear hx hb2 Heq
  generalize hr : alike (lst a b) = r at heq ⊢
  have Hr := Lib.hid hr
  clear hr
  go_wp2_with fail
  go_ret
  exact ⟨by rw [Hr.out]; rfl, Hb2.out.alloc Hb2.out.size _⟩

theorem eql_c (x y u v : Nat) (W : World) : (binOp .eql 31 (.complex .f64 x y) (.complex .f64 u v)).run Tryd.prog W = .ok (.bool (Op.floatEq .f64 x u && Op.floatEq .f64 y v)) W := by
  simp [binOp, Op.complexOp, Op.Complex.cmp, Op.floatCmp, asBool]
  rfl
theorem IsI.two : IsI 4611686018427387904 2 := ⟨false, 2, by decide +kernel, by omega, rfl⟩

set_option maxRecDepth 100000 in
theorem known35_any (w : World) (hT : TabAt 0 Lib.deBruijn64tab w) :
    Calls Tryd.prog 7 #[] w fun e w' => e = .returned (.bool true) ∧ Below w.heap.size w w' := by
  have HT := Lib.hid hT
  clear hT
  have hb1 := (Below.refl w.heap.size w).alloc (Nat.le_refl _) (.cells #[.int .i64 0, .int .i64 1, .int .i64 2, .int .i64 3] 3)
  have hr1 : Reads (w.alloc (.cells #[.int .i64 0, .int .i64 1, .int .i64 2, .int .i64 3] 3)) 1 (some ⟨w.heap.size, 0, none⟩) 4 (zv [0, 1, 2, 3]) := Reads.of_block (n := 4) (heap_alloc_new _ _) rfl
  go_enter Tryd.func7, Tryd.ntmps7
  go_wp2_with fail
  generalize w.alloc (.cells #[.int .i64 0, .int .i64 1, .int .i64 2, .int .i64 3] 3) = w1 at hb1 hr1 ⊢
  have Hb1 := Lib.hid hb1
  have Hr1 := Lib.hid hr1
  clear hb1 hr1
  refine (bitsOf_any (some ⟨w.heap.size, 0, none⟩) [0, 1, 2, 3] 4 w1 Hr1.out (by decide)).mono ?_
  rintro e w2 ⟨rfl, hb2⟩
  rw [show ofS [0, 1, 2, 3] 0 0 = (15, 0, 0) by decide +kernel]
  have hb2' := Hb1.out.trans (hb2.mono Hb1.out.size)
  clear hb2
  go_wp2_with fail
  have hb3 := (hb2'.alloc hb2'.size (.cells #[.int .u64 15, .int .u64 0] 33)).alloc (by rw [size_alloc]; have := hb2'.size; omega) (.cells #[.int .i64 1, .int .i64 5, .int .i64 4] 3)
  have hr3 : Reads ((w2.alloc (.cells #[.int .u64 15, .int .u64 0] 33)).alloc (.cells #[.int .i64 1, .int .i64 5, .int .i64 4] 3)) 1 (some ⟨w2.heap.size + 1, 0, none⟩) 3 (zv [1, 5, 4]) := by
    have h := heap_alloc_new (w2.alloc (.cells #[.int .u64 15, .int .u64 0] 33)) (.cells #[.int .i64 1, .int .i64 5, .int .i64 4] 3)
    rw [size_alloc] at h
    exact Reads.of_block (n := 3) h rfl
  have hg3 : ((w2.alloc (.cells #[.int .u64 15, .int .u64 0] 33)).alloc (.cells #[.int .i64 1, .int .i64 5, .int .i64 4] 3)).heap[w2.heap.size]? = some (.cells #[.int .u64 15, .int .u64 0] 33 (0, 0)) := by
    rw [heap_alloc_old _ _ (by rw [size_alloc]; omega)]; exact heap_alloc_new _ _
  have hs3 : ((w2.alloc (.cells #[.int .u64 15, .int .u64 0] 33)).alloc (.cells #[.int .i64 1, .int .i64 5, .int .i64 4] 3)).heap.size = w2.heap.size + 2 := by rw [size_alloc, size_alloc]
  generalize (w2.alloc (.cells #[.int .u64 15, .int .u64 0] 33)).alloc (.cells #[.int .i64 1, .int .i64 5, .int .i64 4] 3) = w3 at hb3 hr3 hg3 hs3 ⊢
  have hws : w.heap.size ≤ w2.heap.size := hb2'.size
  generalize w2.heap.size = s at hr3 hg3 hs3 hws ⊢
  clear hb2' Hr1 Hb1
  refine (bitsOf_any (some ⟨s + 1, 0, none⟩) [1, 5, 4] 3 w3 hr3 (by decide)).mono ?_
  rintro e w4 ⟨rfl, hb4⟩
  rw [show ofS [1, 5, 4] 0 0 = (50, 0, 0) by decide +kernel]
  have hg4 := (hb4.block s (by rw [hs3]; omega)).trans hg3
  have hs4 : s + 2 ≤ w4.heap.size := by have := hb4.size; rw [hs3] at this; exact this
  have hB4 := hb3.trans (hb4.mono hb3.size)
  clear hb4 hg3 hr3 hb3 hs3
  have hg5 := (heap_alloc_old w4 (.cells #[.int .u64 50, .int .u64 0] 33) (show s < w4.heap.size by omega)).trans hg4
  have hk5 := heap_alloc_new w4 (.cells #[.int .u64 50, .int .u64 0] 33)
  have hB5 := hB4.alloc hB4.size (.cells #[.int .u64 50, .int .u64 0] 33)
  have hs5 := size_alloc w4 (.cells #[.int .u64 50, .int .u64 0] 33)
  have hs0 : (w4.alloc (.cells #[.int .u64 50, .int .u64 0] 33)).cell? ⟨s, 0, none⟩ = some (.int .u64 15) := by rw [cell_of_row _ _ _ _ _ _ hg5]; rfl
  have hs1 : (w4.alloc (.cells #[.int .u64 50, .int .u64 0] 33)).cell? ⟨s, 1, none⟩ = some (.int .u64 0) := by rw [cell_of_row _ _ _ _ _ _ hg5]; rfl
  have ht0 : (w4.alloc (.cells #[.int .u64 50, .int .u64 0] 33)).cell? ⟨w4.heap.size, 0, none⟩ = some (.int .u64 50) := by rw [cell_of_row _ _ _ _ _ _ hk5]; rfl
  have ht1 : (w4.alloc (.cells #[.int .u64 50, .int .u64 0] 33)).cell? ⟨w4.heap.size, 1, none⟩ = some (.int .u64 0) := by rw [cell_of_row _ _ _ _ _ _ hk5]; rfl
  go_wp2_with fail
  generalize w4.alloc (.cells #[.int .u64 50, .int .u64 0] 33) = w5 at hg5 hk5 hB5 hs5 hs0 hs1 ht0 ht1 ⊢
  generalize w4.heap.size = t at hk5 hs5 hs4 ht0 ht1 ⊢
  have HT5 := Lib.hid (tab_below HT.out hB5 (tab_lt HT.out))
  have Hs5 : Hid (s < w5.heap.size) := Lib.hid (by omega)
  have Ht5 : Hid (t < w5.heap.size) := Lib.hid (by omega)
  have S0 := Lib.hid hs0
  have S1 := Lib.hid hs1
  have T0 := Lib.hid ht0
  have T1 := Lib.hid ht1
  have HB5 := Lib.hid (Below.refl w5.heap.size w5)
  have HBw := Lib.hid hB5
  clear hB4 hg4 hs4 hg5 hk5 hB5 hs5 hws HT hs0 hs1 ht0 ht1
  refine (mark_any 15 0 (by omega) (by omega) w5 HT5.out).mono ?_
  rintro e w6 ⟨x6, y6, rfl, hx6, hy6, hb6⟩
  have hc6 := HB5.out.trans (hb6.mono HB5.out.size)
  have hs0 := (hc6.cell (p := ⟨s, 0, none⟩) Hs5.out).trans S0.out
  have hs1 := (hc6.cell (p := ⟨s, 1, none⟩) Hs5.out).trans S1.out
  have ht0 := (hc6.cell (p := ⟨t, 0, none⟩) Ht5.out).trans T0.out
  have ht1 := (hc6.cell (p := ⟨t, 1, none⟩) Ht5.out).trans T1.out
  have HB6 := Lib.hid hc6
  have HT6 := Lib.hid (tab_below HT5.out HB6.out (tab_lt HT5.out))
  clear hb6 hc6
  rw [show tre (lst 15 0) = 0 by decide +kernel] at hx6
  rw [show tim (lst 15 0) = 0 by decide +kernel] at hy6
  have q6 := eql_c x6 y6 0 0
  rw [hx6.eq IsI.zero, hy6.eq IsI.zero] at q6
  simp only [decide_true, Bool.and_self] at q6
  clear hx6 hy6
  go_wp2_with fail
  clear hs0 hs1 ht0 ht1
  clear q6
  refine (even_any 15 0 (by omega) (by omega) w6 HT6.out).mono ?_
  rintro e w7 ⟨rfl, hb7⟩
  have hc7 := HB6.out.trans (hb7.mono HB6.out.size)
  have hs0 := (hc7.cell (p := ⟨s, 0, none⟩) Hs5.out).trans S0.out
  have hs1 := (hc7.cell (p := ⟨s, 1, none⟩) Hs5.out).trans S1.out
  have ht0 := (hc7.cell (p := ⟨t, 0, none⟩) Ht5.out).trans T0.out
  have ht1 := (hc7.cell (p := ⟨t, 1, none⟩) Ht5.out).trans T1.out
  have HB7 := Lib.hid hc7
  have HT7 := Lib.hid (tab_below HT5.out HB7.out (tab_lt HT5.out))
  clear hb7 hc7
  rw [show alike (lst 15 0) = true by decide +kernel]
  go_wp2_with fail
  clear hs0 hs1 ht0 ht1
  refine (mark_any 50 0 (by omega) (by omega) w7 HT7.out).mono ?_
  rintro e w8 ⟨x8, y8, rfl, hx8, hy8, hb8⟩
  have hc8 := HB7.out.trans (hb8.mono HB7.out.size)
  have hs0 := (hc8.cell (p := ⟨s, 0, none⟩) Hs5.out).trans S0.out
  have hs1 := (hc8.cell (p := ⟨s, 1, none⟩) Hs5.out).trans S1.out
  have ht0 := (hc8.cell (p := ⟨t, 0, none⟩) Ht5.out).trans T0.out
  have ht1 := (hc8.cell (p := ⟨t, 1, none⟩) Ht5.out).trans T1.out
  have HB8 := Lib.hid hc8
  have HT8 := Lib.hid (tab_below HT5.out HB8.out (tab_lt HT5.out))
  clear hb8 hc8
  rw [show tre (lst 50 0) = 1 by decide +kernel] at hx8
  rw [show tim (lst 50 0) = 2 by decide +kernel] at hy8
  have q8 := eql_c x8 y8 4607182418800017408 4611686018427387904
  rw [hx8.eq IsI.one, hy8.eq IsI.two] at q8
  simp only [decide_true, Bool.and_self] at q8
  clear hx8 hy8
  go_wp2_with fail
  clear hs0 hs1 ht0 ht1
  clear q8
  refine (even_any 50 0 (by omega) (by omega) w8 HT8.out).mono ?_
  rintro e w9 ⟨rfl, hb9⟩
  have hc9 := HB8.out.trans (hb9.mono HB8.out.size)
  have hs0 := (hc9.cell (p := ⟨s, 0, none⟩) Hs5.out).trans S0.out
  have hs1 := (hc9.cell (p := ⟨s, 1, none⟩) Hs5.out).trans S1.out
  have ht0 := (hc9.cell (p := ⟨t, 0, none⟩) Ht5.out).trans T0.out
  have ht1 := (hc9.cell (p := ⟨t, 1, none⟩) Ht5.out).trans T1.out
  have HB9 := Lib.hid hc9
  have HT9 := Lib.hid (tab_below HT5.out HB9.out (tab_lt HT5.out))
  clear hb9 hc9
  rw [show alike (lst 50 0) = false by decide +kernel]
  go_wp2_with fail
  clear hs0 hs1 ht0 ht1
  refine (turn_any (-1) w9).mono ?_
  rintro e w10 ⟨rfl, hb10⟩
  have hc10 := HB9.out.trans (hb10.mono HB9.out.size)
  have hs0 := (hc10.cell (p := ⟨s, 0, none⟩) Hs5.out).trans S0.out
  have hs1 := (hc10.cell (p := ⟨s, 1, none⟩) Hs5.out).trans S1.out
  have ht0 := (hc10.cell (p := ⟨t, 0, none⟩) Ht5.out).trans T0.out
  have ht1 := (hc10.cell (p := ⟨t, 1, none⟩) Ht5.out).trans T1.out
  have HB10 := Lib.hid hc10
  have HT10 := Lib.hid (tab_below HT5.out HB10.out (tab_lt HT5.out))
  clear hb10 hc10
  rw [show turnB (-1) = (0, 13830554455654793216) by decide +kernel]
  have q10 := eql_c 0 13830554455654793216 0 13830554455654793216
  rw [IsI.zero.eq IsI.zero, IsI.neg.eq IsI.neg] at q10
  simp only [decide_true, Bool.and_self] at q10
  go_wp2_with fail
  clear hs0 hs1 ht0 ht1
  clear q10
  refine (lanes_any 50 0 (by omega) (by omega) w10 HT10.out).mono ?_
  rintro e w11 ⟨x0, x1, x2, x3, rfl, hx, hb11⟩
  have hc11 := HB10.out.trans (hb11.mono HB10.out.size)
  have hs0 := (hc11.cell (p := ⟨s, 0, none⟩) Hs5.out).trans S0.out
  have hs1 := (hc11.cell (p := ⟨s, 1, none⟩) Hs5.out).trans S1.out
  have ht0 := (hc11.cell (p := ⟨t, 0, none⟩) Ht5.out).trans T0.out
  have ht1 := (hc11.cell (p := ⟨t, 1, none⟩) Ht5.out).trans T1.out
  have HB11 := Lib.hid hc11
  have HT11 := Lib.hid (tab_below HT5.out HB11.out (tab_lt HT5.out))
  clear hb11 hc11
  rw [show cnt 0 (lst 50 0) = 1 by decide +kernel, show cnt 1 (lst 50 0) = 2 by decide +kernel, show cnt 2 (lst 50 0) = 0 by decide +kernel, show cnt 3 (lst 50 0) = 0 by decide +kernel] at hx
  have q11 := eql_f4' x0 x1 x2 x3 4607182418800017408 4611686018427387904 0 0
  rw [hx.1.eq IsI.one, hx.2.1.eq IsI.two, hx.2.2.1.eq IsI.zero, hx.2.2.2.eq IsI.zero] at q11
  simp only [decide_true, Bool.and_self] at q11
  clear hx
  go_wp2_with fail
  clear hs0 hs1 ht0 ht1
  go_ret
  exact ⟨rfl, HBw.out.trans (HB11.out.mono HBw.out.size)⟩
end Go.Proofs.YtlfclpdcingpnaaDoor
