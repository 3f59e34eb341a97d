/- The walk of WavePower. -/
import Derived.Test.YtlfclpdcingpnaaDoorPower
open Go.RowKit
namespace Go.Proofs.YtlfclpdcingpnaaDoor
attribute [local go_sem] store_f store_c

theorem wrap64_big (x : Int) (h : x.natAbs ≤ 4611686018427387904) : wrap64 x = x := by
  unfold wrap64
  omega
theorem eql_f (x y : Nat) (W : World) : (binOp .eql 36 (.float .f64 x) (.float .f64 y)).run Tryd.prog W = .ok (.bool (Op.floatEq .f64 x y)) W := by
  simp [binOp, Op.floatCmp]
  rfl
theorem IsI.four : IsI 4616189618054758400 4 := ⟨false, 4, by decide +kernel, by omega, rfl⟩
theorem sq_small (a : Int) (h : a.natAbs ≤ 65536) : (a * a).natAbs ≤ 4294967296 := by
  rw [Int.natAbs_mul]; exact Nat.mul_le_mul h h
theorem sq_mid (a : Int) (h : a.natAbs ≤ 262144) : (a * a).natAbs ≤ 68719476736 := by
  rw [Int.natAbs_mul]; exact Nat.mul_le_mul h h
theorem powers_sum (a b c d : Int) : ((a + c + (b + d)) * (a + c + (b + d)) + 0 * 0) + ((a - c) * (a - c) + -(b - d) * -(b - d)) + ((a + c - (b + d)) * (a + c - (b + d)) + 0 * 0) + ((a - c) * (a - c) + (b - d) * (b - d)) = 4 * (a * a + b * b + c * c + d * d) := by grind

def ssum (x0 x1 x2 x3 : Int) (j : Nat) : Int := if j = 0 then 0 else if j = 1 then x0 * x0 else if j = 2 then x0 * x0 + x1 * x1 else if j = 3 then x0 * x0 + x1 * x1 + x2 * x2 else x0 * x0 + x1 * x1 + x2 * x2 + x3 * x3

set_option maxHeartbeats 2000000 in
set_option maxRecDepth 100000 in
theorem wavePower_any (x0 x1 x2 x3 : Int) (w : World) (hT : TabAt 0 Lib.deBruijn64tab w) :
    Calls Tryd.prog 5 #[.agg #[.int .i64 x0, .int .i64 x1, .int .i64 x2, .int .i64 x3]] w fun e w' => e = .returned (.bool true) ∧ Below w.heap.size w w' := by
  have hb1 := (Below.refl w.heap.size w).alloc (Nat.le_refl _) (.cells #[.int .i64 x0, .int .i64 x1, .int .i64 x2, .int .i64 x3] 47)
  have hs1 := size_alloc w (.cells #[.int .i64 x0, .int .i64 x1, .int .i64 x2, .int .i64 x3] 47)
  have hg1 := heap_alloc_new w (.cells #[.int .i64 x0, .int .i64 x1, .int .i64 x2, .int .i64 x3] 47)
  go_enter Tryd.func5, Tryd.ntmps5
  go_wp2_with fail
  generalize w.alloc (.cells #[.int .i64 x0, .int .i64 x1, .int .i64 x2, .int .i64 x3] 47) = w1 at hb1 hs1 hg1 ⊢
  have HT1 := Lib.hid (tab_below hT hb1 (tab_lt hT))
  have c0 : w1.cell? ⟨w.heap.size, 0, none⟩ = some (.int .i64 x0) := by rw [cell_of_row _ _ _ _ _ _ hg1]; rfl
  have c1 : w1.cell? ⟨w.heap.size, 1, none⟩ = some (.int .i64 x1) := by rw [cell_of_row _ _ _ _ _ _ hg1]; rfl
  have c2 : w1.cell? ⟨w.heap.size, 2, none⟩ = some (.int .i64 x2) := by rw [cell_of_row _ _ _ _ _ _ hg1]; rfl
  have c3 : w1.cell? ⟨w.heap.size, 3, none⟩ = some (.int .i64 x3) := by rw [cell_of_row _ _ _ _ _ _ hg1]; rfl
  have C0 := Lib.hid c0
  have C1 := Lib.hid c1
  have C2 := Lib.hid c2
  have C3 := Lib.hid c3
  have Hs1 := Lib.hid (show w.heap.size < w1.heap.size by omega)
  have HB1 := Lib.hid hb1
  clear hb1 hs1 hg1 hT c0 c1 c2 c3
  refine (within_any x0 x1 x2 x3 65536 (wrap64_big _ (by decide)) w1).mono ?_
  rintro e w2 ⟨rfl, hb2⟩
  have HB2 := Lib.hid (show Below w1.heap.size w1 w2 from hb2)
  by_cases hw : ¬ win 65536 x0 x1 x2 x3
  · rw [decide_eq_false hw]
    clear hb2
    go_wp2_with fail
    refine (known35_any w2 (tab_below HT1.out HB2.out (tab_lt HT1.out))).mono ?_
    rintro e w3 ⟨rfl, hb3⟩
    go_wp2_with fail
    go_ret
    exact ⟨rfl, HB1.out.trans ((HB2.out.trans (hb3.mono (B' := w1.heap.size) HB2.out.size)).mono HB1.out.size)⟩
  have hw := Decidable.not_not.1 hw
  rw [decide_eq_true hw]
  have hx0 : x0.natAbs ≤ 65536 := by have := hw.1; unfold okk at this; omega
  have hx1 : x1.natAbs ≤ 65536 := by have := hw.2.1; unfold okk at this; omega
  have hx2 : x2.natAbs ≤ 65536 := by have := hw.2.2.1; unfold okk at this; omega
  have hx3 : x3.natAbs ≤ 65536 := by have := hw.2.2.2; unfold okk at this; omega
  have c0 := (hb2.cell (p := ⟨w.heap.size, 0, none⟩) Hs1.out).trans C0.out
  have c1 := (hb2.cell (p := ⟨w.heap.size, 1, none⟩) Hs1.out).trans C1.out
  have c2 := (hb2.cell (p := ⟨w.heap.size, 2, none⟩) Hs1.out).trans C2.out
  have c3 := (hb2.cell (p := ⟨w.heap.size, 3, none⟩) Hs1.out).trans C3.out
  have X0 := Lib.hid hx0
  have X1 := Lib.hid hx1
  have X2 := Lib.hid hx2
  have X3 := Lib.hid hx3
  clear hb2 hw hx0 hx1 hx2 hx3
  go_wp2_with fail
  clear c0 c1 c2 c3
  refine (whole_any x0 x1 x2 x3 (by have := X0.out; omega) (by have := X1.out; omega) (by have := X2.out; omega) (by have := X3.out; omega) w2).mono ?_
  rintro e w3 ⟨y0, y1, y2, y3, rfl, hy, hb3⟩
  have HB3 := Lib.hid (show Below w1.heap.size w1 w3 from HB2.out.trans (hb3.mono (B' := w1.heap.size) HB2.out.size))
  have Hy := Lib.hid hy
  clear hb3 hy
  go_wp2_with fail
  refine (four_any y0 y1 y2 y3 x0 x1 x2 x3 Hy.out.1 Hy.out.2.1 Hy.out.2.2.1 Hy.out.2.2.2 (by have := X0.out; omega) (by have := X1.out; omega) (by have := X2.out; omega) (by have := X3.out; omega) w3).mono ?_
  rintro e w4 ⟨a0, a1, c1, a2, a3, c3, rfl, hz, hb4⟩
  have HB4 := Lib.hid (show Below w1.heap.size w1 w4 from HB3.out.trans (hb4.mono (B' := w1.heap.size) HB3.out.size))
  have Hz := Lib.hid hz
  clear hb4 hz
  go_wp2_with fail
  refine (power_any a0 0 a1 c1 a2 0 a3 c3 _ 0 _ _ _ 0 _ _ ⟨Hz.out.1, IsI.zero⟩ ⟨Hz.out.2.1, Hz.out.2.2.1⟩ ⟨Hz.out.2.2.2.1, IsI.zero⟩ ⟨Hz.out.2.2.2.2.1, Hz.out.2.2.2.2.2⟩ (by have := X0.out; have := X1.out; have := X2.out; have := X3.out; omega) (by have := X0.out; have := X1.out; have := X2.out; have := X3.out; omega) (by have := X0.out; have := X1.out; have := X2.out; have := X3.out; omega) (by have := X0.out; have := X1.out; have := X2.out; have := X3.out; omega) w4).mono ?_
  rintro e w5 ⟨p0, p1, p2, p3, rfl, hp, hb5⟩
  have HB5 := Lib.hid (show Below w1.heap.size w1 w5 from HB4.out.trans (hb5.mono (B' := w1.heap.size) HB4.out.size))
  have z1 := X0.out
  have z2 := X1.out
  have z3 := X2.out
  have z4 := X3.out
  have s1 := sq_mid (x0 + x2 + (x1 + x3)) (by omega)
  have s2 := sq_mid (x0 - x2) (by omega)
  have s3 := sq_mid (-(x1 - x3)) (by omega)
  have s4 := sq_mid (x0 + x2 - (x1 + x3)) (by omega)
  have s5 := sq_mid (x1 - x3) (by omega)
  have n0 := sq_small x0 z1
  have n1 := sq_small x1 z2
  have n2 := sq_small x2 z3
  have n3 := sq_small x3 z4
  obtain ⟨r1, hr1, i1⟩ := hp.1.add hp.2.1 (by omega)
  obtain ⟨r2, hr2, i2⟩ := i1.add hp.2.2.1 (by omega)
  obtain ⟨r3, hr3, i3⟩ := i2.add hp.2.2.2 (by omega)
  rw [powers_sum] at i3
  have iS := IsI.ofInt (x0 * x0 + x1 * x1 + x2 * x2 + x3 * x3) (by omega)
  obtain ⟨m, hm, im⟩ := IsI.four.mul iS (by omega)
  have fe : FloatKind.f64.format.order r3 m = some Ordering.eq := by
    have h := i3.eq im
    rw [decide_eq_true rfl] at h
    exact eq_of_beq h
  have g1 := fun W : World => run_float_arith (P := Tryd.prog) W .add 36 .f64 p0 p1 r1 hr1
  have g2 := fun W : World => run_float_arith (P := Tryd.prog) W .add 36 .f64 r1 p2 r2 hr2
  have g3 := fun W : World => run_float_arith (P := Tryd.prog) W .add 36 .f64 r2 p3 r3 hr3
  have g4 := fun W : World => run_float_arith (P := Tryd.prog) W .mul 36 .f64 4616189618054758400 _ m hm
  have W0 := Lib.hid (wrap64_big (x0 * x0) (by omega))
  have W1 := Lib.hid (wrap64_big (x1 * x1) (by omega))
  have W2 := Lib.hid (wrap64_big (x2 * x2) (by omega))
  have W3 := Lib.hid (wrap64_big (x3 * x3) (by omega))
  have N := Lib.hid (show (x0 * x0).natAbs ≤ 4294967296 ∧ (x1 * x1).natAbs ≤ 4294967296 ∧ (x2 * x2).natAbs ≤ 4294967296 ∧ (x3 * x3).natAbs ≤ 4294967296 from ⟨n0, n1, n2, n3⟩)
  have FE := Lib.hid fe
  have G1 := Lib.hid g1
  have G2 := Lib.hid g2
  have G3 := Lib.hid g3
  have G4 := Lib.hid g4
  clear z1 z2 z3 z4 s1 s2 s3 s4 s5 n0 n1 n2 n3 hr1 i1 hr2 i2 hr3 i3 iS hm im hp hb5 fe g1 g2 g3 g4 Hz Hy
  have hg6 := heap_alloc_new w5 (.cells #[.float .f64 p0, .float .f64 p1, .float .f64 p2, .float .f64 p3] 37)
  have hB6 := HB5.out.alloc HB5.out.size (.cells #[.float .f64 p0, .float .f64 p1, .float .f64 p2, .float .f64 p3] 37)
  have hs6 := size_alloc w5 (.cells #[.float .f64 p0, .float .f64 p1, .float .f64 p2, .float .f64 p3] 37)
  go_wp2_with fail
  generalize w5.alloc (.cells #[.float .f64 p0, .float .f64 p1, .float .f64 p2, .float .f64 p3] 37) = w6 at hg6 hB6 hs6 ⊢
  generalize w5.heap.size = g3 at hg6 hs6 ⊢
  have P0 : Hid (w6.cell? ⟨g3, 0, none⟩ = some (.float .f64 p0)) := Lib.hid (by rw [cell_of_row _ _ _ _ _ _ hg6]; rfl)
  have P1 : Hid (w6.cell? ⟨g3, 1, none⟩ = some (.float .f64 p1)) := Lib.hid (by rw [cell_of_row _ _ _ _ _ _ hg6]; rfl)
  have P2 : Hid (w6.cell? ⟨g3, 2, none⟩ = some (.float .f64 p2)) := Lib.hid (by rw [cell_of_row _ _ _ _ _ _ hg6]; rfl)
  have P3 : Hid (w6.cell? ⟨g3, 3, none⟩ = some (.float .f64 p3)) := Lib.hid (by rw [cell_of_row _ _ _ _ _ _ hg6]; rfl)
  have Zg : Hid (g3 < w6.heap.size) := Lib.hid (by omega)
  have Zb : Hid (w.heap.size < w6.heap.size) := Lib.hid (Nat.lt_of_lt_of_le Hs1.out hB6.size)
  have D0 := Lib.hid ((hB6.cell (p := ⟨w.heap.size, 0, none⟩) Hs1.out).trans C0.out)
  have D1 := Lib.hid ((hB6.cell (p := ⟨w.heap.size, 1, none⟩) Hs1.out).trans C1.out)
  have D2 := Lib.hid ((hB6.cell (p := ⟨w.heap.size, 2, none⟩) Hs1.out).trans C2.out)
  have D3 := Lib.hid ((hB6.cell (p := ⟨w.heap.size, 3, none⟩) Hs1.out).trans C3.out)
  have HB6 := Lib.hid hB6
  clear hg6 hs6 hB6
  go_loopw [4, 5] (fun s i wr => ∃ (j : Nat) (v : Int), j ≤ 4 ∧ s = .int .i64 v ∧ i = .int .i64 j ∧ Hid (v = ssum x0 x1 x2 x3 j) ∧ Hid (Below w6.heap.size w6 wr)) (fun _ i _ => 4 - (intOf i).toNat)
  case atStart => exact ⟨0, 0, by omega, rfl, rfl, rfl, Below.refl _ _⟩
  case round =>
    obtain ⟨j, v, hj, rfl, rfl, Hv, Hb⟩ := hrel
    rcases (by omega : j = 0 ∨ j = 1 ∨ j = 2 ∨ j = 3 ∨ j = 4) with rfl | rfl | rfl | rfl | rfl
    · rw [show ((0 : Nat) : Int) = 0 from rfl]
      have c0 := (Hb.out.cell (p := ⟨w.heap.size, 0, none⟩) Zb.out).trans D0.out
      have hW := W0.out
      have hV : wrap64 (v + x0 * x0) = v + x0 * x0 := wrap64_big _ (by have := N.out; rw [Hv.out]; simp only [ssum]; omega)
      have HV := Lib.hid hV
      have Hnew : Hid (v + x0 * x0 = ssum x0 x1 x2 x3 (0 + 1)) := Lib.hid (by rw [Hv.out]; simp [ssum])
      go_wp2_with fail
      go_quiet (fail)
      clear hW hV c0
      go_wp2_with fail
      case roundEnd =>
        exact ⟨⟨0 + 1, v + x0 * x0, by omega, by first | rfl | rw [HV.out], rfl, Hnew, Lib.hid (Hb.out.trans ⟨rfl, rfl, rfl, Nat.le_refl _, fun _ _ => rfl⟩)⟩, by simp [intOf]⟩
    · rw [show ((1 : Nat) : Int) = 1 from rfl]
      have c0 := (Hb.out.cell (p := ⟨w.heap.size, 1, none⟩) Zb.out).trans D1.out
      have hW := W1.out
      have hV : wrap64 (v + x1 * x1) = v + x1 * x1 := wrap64_big _ (by have := N.out; rw [Hv.out]; simp only [ssum]; omega)
      have HV := Lib.hid hV
      have Hnew : Hid (v + x1 * x1 = ssum x0 x1 x2 x3 (1 + 1)) := Lib.hid (by rw [Hv.out]; simp [ssum])
      go_wp2_with fail
      go_quiet (fail)
      clear hW hV c0
      go_wp2_with fail
      case roundEnd =>
        exact ⟨⟨1 + 1, v + x1 * x1, by omega, by first | rfl | rw [HV.out], rfl, Hnew, Lib.hid (Hb.out.trans ⟨rfl, rfl, rfl, Nat.le_refl _, fun _ _ => rfl⟩)⟩, by simp [intOf]⟩
    · rw [show ((2 : Nat) : Int) = 2 from rfl]
      have c0 := (Hb.out.cell (p := ⟨w.heap.size, 2, none⟩) Zb.out).trans D2.out
      have hW := W2.out
      have hV : wrap64 (v + x2 * x2) = v + x2 * x2 := wrap64_big _ (by have := N.out; rw [Hv.out]; simp only [ssum]; omega)
      have HV := Lib.hid hV
      have Hnew : Hid (v + x2 * x2 = ssum x0 x1 x2 x3 (2 + 1)) := Lib.hid (by rw [Hv.out]; simp [ssum])
      go_wp2_with fail
      go_quiet (fail)
      clear hW hV c0
      go_wp2_with fail
      case roundEnd =>
        exact ⟨⟨2 + 1, v + x2 * x2, by omega, by first | rfl | rw [HV.out], rfl, Hnew, Lib.hid (Hb.out.trans ⟨rfl, rfl, rfl, Nat.le_refl _, fun _ _ => rfl⟩)⟩, by simp [intOf]⟩
    · rw [show ((3 : Nat) : Int) = 3 from rfl]
      have c0 := (Hb.out.cell (p := ⟨w.heap.size, 3, none⟩) Zb.out).trans D3.out
      have hW := W3.out
      have hV : wrap64 (v + x3 * x3) = v + x3 * x3 := wrap64_big _ (by have := N.out; rw [Hv.out]; simp only [ssum]; omega)
      have HV := Lib.hid hV
      have Hnew : Hid (v + x3 * x3 = ssum x0 x1 x2 x3 (3 + 1)) := Lib.hid (by rw [Hv.out]; simp [ssum])
      go_wp2_with fail
      go_quiet (fail)
      clear hW hV c0
      go_wp2_with fail
      case roundEnd =>
        exact ⟨⟨3 + 1, v + x3 * x3, by omega, by first | rfl | rw [HV.out], rfl, Hnew, Lib.hid (Hb.out.trans ⟨rfl, rfl, rfl, Nat.le_refl _, fun _ _ => rfl⟩)⟩, by simp [intOf]⟩
    · rw [show ((4 : Nat) : Int) = 4 from rfl]
      obtain rfl : v = x0 * x0 + x1 * x1 + x2 * x2 + x3 * x3 := Hv.out
      have d0 := (Hb.out.cell (p := ⟨g3, 0, none⟩) Zg.out).trans P0.out
      have d1 := (Hb.out.cell (p := ⟨g3, 1, none⟩) Zg.out).trans P1.out
      have d2 := (Hb.out.cell (p := ⟨g3, 2, none⟩) Zg.out).trans P2.out
      have d3 := (Hb.out.cell (p := ⟨g3, 3, none⟩) Zg.out).trans P3.out
      have g1 := G1.out
      have g2 := G2.out
      have g3' := G3.out
      have g4 := G4.out
      have fe := FE.out
      generalize x0 * x0 + x1 * x1 + x2 * x2 + x3 * x3 = sq at g4 ⊢
      go_wp2_with fail
      refine (known35_any wr (tab_below HT1.out (HB6.out.trans (Hb.out.mono HB6.out.size)) (tab_lt HT1.out))).mono ?_
      rintro e w7 ⟨rfl, hb7⟩
      clear d0 d1 d2 d3 g1 g2 g3' g4 fe
      go_wp2_with fail
      go_ret
      have h1 := HB6.out.trans (Hb.out.mono (B' := w1.heap.size) HB6.out.size)
      exact ⟨rfl, HB1.out.trans ((h1.trans (hb7.mono (B' := w1.heap.size) h1.size)).mono HB1.out.size)⟩
end Go.Proofs.YtlfclpdcingpnaaDoor
