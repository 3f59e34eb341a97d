/- The powers of four waves. -/
import Derived.Test.YtlfclpdcingpnaaDoorWithin
open Go.RowKit
namespace Go.Proofs.YtlfclpdcingpnaaDoor
attribute [local go_sem] store_f store_c

theorem sq_abs (a : Int) (h : a.natAbs ≤ 4194304) : (a * a).natAbs ≤ 17592186044416 := by
  rw [Int.natAbs_mul]; exact Nat.mul_le_mul h h

set_option maxHeartbeats 2000000 in
set_option maxRecDepth 100000 in
theorem power_any (u0 w0 u1 w1 u2 w2 u3 w3 : Nat) (A0 B0 A1 B1 A2 B2 A3 B3 : Int) (h0 : IsI u0 A0 ∧ IsI w0 B0) (h1 : IsI u1 A1 ∧ IsI w1 B1) (h2 : IsI u2 A2 ∧ IsI w2 B2) (h3 : IsI u3 A3 ∧ IsI w3 B3)
    (b0 : A0.natAbs ≤ 4194304 ∧ B0.natAbs ≤ 4194304) (b1 : A1.natAbs ≤ 4194304 ∧ B1.natAbs ≤ 4194304) (b2 : A2.natAbs ≤ 4194304 ∧ B2.natAbs ≤ 4194304) (b3 : A3.natAbs ≤ 4194304 ∧ B3.natAbs ≤ 4194304) (w : World) :
    Calls Tryd.prog 21 #[.agg #[.complex .f64 u0 w0, .complex .f64 u1 w1, .complex .f64 u2 w2, .complex .f64 u3 w3]] w fun e w' => ∃ p0 p1 p2 p3, e = .returned (.agg #[.float .f64 p0, .float .f64 p1, .float .f64 p2, .float .f64 p3]) ∧ (IsI p0 (A0 * A0 + B0 * B0) ∧ IsI p1 (A1 * A1 + B1 * B1) ∧ IsI p2 (A2 * A2 + B2 * B2) ∧ IsI p3 (A3 * A3 + B3 * B3)) ∧ Below w.heap.size w w' := by
  have hg2 : (((w.alloc (.cells #[.complex .f64 u0 w0, .complex .f64 u1 w1, .complex .f64 u2 w2, .complex .f64 u3 w3] 39)).alloc (.cells #[.float .f64 0, .float .f64 0, .float .f64 0, .float .f64 0] 37)).alloc (.cells #[.float .f64 0, .float .f64 0, .float .f64 0, .float .f64 0] 37)).heap[w.heap.size + 1]? = some (.cells #[.float .f64 0, .float .f64 0, .float .f64 0, .float .f64 0] 37 (0, 0)) := by
    have := heap_alloc_new (w.alloc (.cells #[.complex .f64 u0 w0, .complex .f64 u1 w1, .complex .f64 u2 w2, .complex .f64 u3 w3] 39)) (.cells #[.float .f64 0, .float .f64 0, .float .f64 0, .float .f64 0] 37)
    rw [size_alloc] at this
    rw [heap_alloc_old _ _ (by rw [size_alloc, size_alloc]; omega)]; exact this
  have hg3 := heap_alloc_new ((w.alloc (.cells #[.complex .f64 u0 w0, .complex .f64 u1 w1, .complex .f64 u2 w2, .complex .f64 u3 w3] 39)).alloc (.cells #[.float .f64 0, .float .f64 0, .float .f64 0, .float .f64 0] 37)) (.cells #[.float .f64 0, .float .f64 0, .float .f64 0, .float .f64 0] 37)
  rw [size_alloc, size_alloc] at hg3
  have hb1 := (((Below.refl w.heap.size w).alloc (Nat.le_refl _) (.cells #[.complex .f64 u0 w0, .complex .f64 u1 w1, .complex .f64 u2 w2, .complex .f64 u3 w3] 39)).alloc (by rw [size_alloc]; omega) (.cells #[.float .f64 0, .float .f64 0, .float .f64 0, .float .f64 0] 37)).alloc (by rw [size_alloc, size_alloc]; omega) (.cells #[.float .f64 0, .float .f64 0, .float .f64 0, .float .f64 0] 37)
  obtain ⟨s0, rs0, is0⟩ := h0.1.mul h0.1 (by have := sq_abs _ b0.1; omega)
  obtain ⟨t0, rt0, it0⟩ := h0.2.mul h0.2 (by have := sq_abs _ b0.2; omega)
  obtain ⟨q0, rq0, iq0⟩ := is0.add it0 (by have := sq_abs _ b0.1; have := sq_abs _ b0.2; omega)
  have f0 := fun W : World => run_float_arith (P := Tryd.prog) W .mul 36 .f64 u0 u0 s0 rs0
  have e0 := fun W : World => run_float_arith (P := Tryd.prog) W .mul 36 .f64 w0 w0 t0 rt0
  have d0 := fun W : World => run_float_arith (P := Tryd.prog) W .add 36 .f64 s0 t0 q0 rq0
  have Q0 := Lib.hid iq0
  have i0 : ∀ W : World, (Instr.index 39 (.agg #[.complex .f64 u0 w0, .complex .f64 u1 w1, .complex .f64 u2 w2, .complex .f64 u3 w3]) (.int .i64 0)).run Tryd.prog W = .ok (.complex .f64 u0 w0) W := fun W => by kernel_rfl
  clear rs0 is0 rt0 it0 rq0 iq0 h0 b0
  obtain ⟨s1, rs1, is1⟩ := h1.1.mul h1.1 (by have := sq_abs _ b1.1; omega)
  obtain ⟨t1, rt1, it1⟩ := h1.2.mul h1.2 (by have := sq_abs _ b1.2; omega)
  obtain ⟨q1, rq1, iq1⟩ := is1.add it1 (by have := sq_abs _ b1.1; have := sq_abs _ b1.2; omega)
  have f1 := fun W : World => run_float_arith (P := Tryd.prog) W .mul 36 .f64 u1 u1 s1 rs1
  have e1 := fun W : World => run_float_arith (P := Tryd.prog) W .mul 36 .f64 w1 w1 t1 rt1
  have d1 := fun W : World => run_float_arith (P := Tryd.prog) W .add 36 .f64 s1 t1 q1 rq1
  have Q1 := Lib.hid iq1
  have i1 : ∀ W : World, (Instr.index 39 (.agg #[.complex .f64 u0 w0, .complex .f64 u1 w1, .complex .f64 u2 w2, .complex .f64 u3 w3]) (.int .i64 1)).run Tryd.prog W = .ok (.complex .f64 u1 w1) W := fun W => by kernel_rfl
  clear rs1 is1 rt1 it1 rq1 iq1 h1 b1
  obtain ⟨s2, rs2, is2⟩ := h2.1.mul h2.1 (by have := sq_abs _ b2.1; omega)
  obtain ⟨t2, rt2, it2⟩ := h2.2.mul h2.2 (by have := sq_abs _ b2.2; omega)
  obtain ⟨q2, rq2, iq2⟩ := is2.add it2 (by have := sq_abs _ b2.1; have := sq_abs _ b2.2; omega)
  have f2 := fun W : World => run_float_arith (P := Tryd.prog) W .mul 36 .f64 u2 u2 s2 rs2
  have e2 := fun W : World => run_float_arith (P := Tryd.prog) W .mul 36 .f64 w2 w2 t2 rt2
  have d2 := fun W : World => run_float_arith (P := Tryd.prog) W .add 36 .f64 s2 t2 q2 rq2
  have Q2 := Lib.hid iq2
  have i2 : ∀ W : World, (Instr.index 39 (.agg #[.complex .f64 u0 w0, .complex .f64 u1 w1, .complex .f64 u2 w2, .complex .f64 u3 w3]) (.int .i64 2)).run Tryd.prog W = .ok (.complex .f64 u2 w2) W := fun W => by kernel_rfl
  clear rs2 is2 rt2 it2 rq2 iq2 h2 b2
  obtain ⟨s3, rs3, is3⟩ := h3.1.mul h3.1 (by have := sq_abs _ b3.1; omega)
  obtain ⟨t3, rt3, it3⟩ := h3.2.mul h3.2 (by have := sq_abs _ b3.2; omega)
  obtain ⟨q3, rq3, iq3⟩ := is3.add it3 (by have := sq_abs _ b3.1; have := sq_abs _ b3.2; omega)
  have f3 := fun W : World => run_float_arith (P := Tryd.prog) W .mul 36 .f64 u3 u3 s3 rs3
  have e3 := fun W : World => run_float_arith (P := Tryd.prog) W .mul 36 .f64 w3 w3 t3 rt3
  have d3 := fun W : World => run_float_arith (P := Tryd.prog) W .add 36 .f64 s3 t3 q3 rq3
  have Q3 := Lib.hid iq3
  have i3 : ∀ W : World, (Instr.index 39 (.agg #[.complex .f64 u0 w0, .complex .f64 u1 w1, .complex .f64 u2 w2, .complex .f64 u3 w3]) (.int .i64 3)).run Tryd.prog W = .ok (.complex .f64 u3 w3) W := fun W => by kernel_rfl
  clear rs3 is3 rt3 it3 rq3 iq3 h3 b3
  go_enter Tryd.func21, Tryd.ntmps21
  go_wp2
  generalize ((w.alloc (.cells #[.complex .f64 u0 w0, .complex .f64 u1 w1, .complex .f64 u2 w2, .complex .f64 u3 w3] 39)).alloc (.cells #[.float .f64 0, .float .f64 0, .float .f64 0, .float .f64 0] 37)).alloc (.cells #[.float .f64 0, .float .f64 0, .float .f64 0, .float .f64 0] 37) = wa at hb1 hg2 hg3 ⊢
  have Hb1 := Lib.hid hb1
  have Hg2 := Lib.hid hg2
  have Hg3 := Lib.hid hg3
  clear hb1 hg2 hg3
  go_loopw [7] (fun i wr => ∃ (j p0 p1 p2 p3 : Nat), j ≤ 4 ∧ i = .int .i64 j ∧ Hid ((0 < j → p0 = q0) ∧ (1 < j → p1 = q1) ∧ (2 < j → p2 = q2) ∧ (3 < j → p3 = q3)) ∧ Hid (wr.heap[w.heap.size + 1]? = some (.cells #[.float .f64 0, .float .f64 0, .float .f64 0, .float .f64 0] 37 (0, 0))) ∧ Hid (wr.heap[w.heap.size + 2]? = some (.cells #[.float .f64 p0, .float .f64 p1, .float .f64 p2, .float .f64 p3] 37 (0, 0))) ∧ Hid (Below w.heap.size w wr)) (fun i _ => 4 - (intOf i).toNat)
  case atStart => exact ⟨0, 0, 0, 0, 0, by omega, rfl, ⟨by omega, by omega, by omega, by omega⟩, Hg2, Hg3, Hb1⟩
  case round =>
    clear Hg2 Hg3 Hb1
    obtain ⟨j, p0, p1, p2, p3, hj, rfl, Hp, H2, H3, Hb⟩ := hrel
    have c0 : wr.cell? ⟨w.heap.size + 2, 0, none⟩ = some (.float .f64 p0) := by rw [cell_of_row _ _ _ _ _ _ H3.out]; rfl
    have c1 : wr.cell? ⟨w.heap.size + 2, 1, none⟩ = some (.float .f64 p1) := by rw [cell_of_row _ _ _ _ _ _ H3.out]; rfl
    have c2 : wr.cell? ⟨w.heap.size + 2, 2, none⟩ = some (.float .f64 p2) := by rw [cell_of_row _ _ _ _ _ _ H3.out]; rfl
    have c3 : wr.cell? ⟨w.heap.size + 2, 3, none⟩ = some (.float .f64 p3) := by rw [cell_of_row _ _ _ _ _ _ H3.out]; rfl
    rcases (by omega : j = 0 ∨ j = 1 ∨ j = 2 ∨ j = 3 ∨ j = 4) with rfl | rfl | rfl | rfl | rfl
    · rw [show ((0 : Nat) : Int) = 0 from rfl]
      have ff : wr.frozen? ⟨w.heap.size + 2, 0, none⟩ = false := frozen_of_row _ _ _ _ _ H3.out
      go_wp2
      case roundEnd =>
        refine ⟨⟨0 + 1, q0, p1, p2, p3, by omega, rfl, Lib.hid ⟨fun _ => rfl, by omega, by omega, by omega⟩, Lib.hid ?_, Lib.hid (heap_setCell_same _ _ 0 _ _ (.float .f64 q0) H3.out), Lib.hid (Hb.out.setCell (p := ⟨w.heap.size + 2, 0, none⟩) (by show w.heap.size ≤ w.heap.size + 2; omega) _)⟩, by simp [intOf]⟩
        rw [heap_setCell_other _ _ _ _ (by simp)]; exact H2.out
    · rw [show ((1 : Nat) : Int) = 1 from rfl]
      have ff : wr.frozen? ⟨w.heap.size + 2, 1, none⟩ = false := frozen_of_row _ _ _ _ _ H3.out
      go_wp2
      case roundEnd =>
        refine ⟨⟨1 + 1, p0, q1, p2, p3, by omega, rfl, Lib.hid ⟨fun _ => Hp.out.1 (by omega), fun _ => rfl, by omega, by omega⟩, Lib.hid ?_, Lib.hid (heap_setCell_same _ _ 1 _ _ (.float .f64 q1) H3.out), Lib.hid (Hb.out.setCell (p := ⟨w.heap.size + 2, 1, none⟩) (by show w.heap.size ≤ w.heap.size + 2; omega) _)⟩, by simp [intOf]⟩
        rw [heap_setCell_other _ _ _ _ (by simp)]; exact H2.out
    · rw [show ((2 : Nat) : Int) = 2 from rfl]
      have ff : wr.frozen? ⟨w.heap.size + 2, 2, none⟩ = false := frozen_of_row _ _ _ _ _ H3.out
      go_wp2
      case roundEnd =>
        refine ⟨⟨2 + 1, p0, p1, q2, p3, by omega, rfl, Lib.hid ⟨fun _ => Hp.out.1 (by omega), fun _ => Hp.out.2.1 (by omega), fun _ => rfl, by omega⟩, Lib.hid ?_, Lib.hid (heap_setCell_same _ _ 2 _ _ (.float .f64 q2) H3.out), Lib.hid (Hb.out.setCell (p := ⟨w.heap.size + 2, 2, none⟩) (by show w.heap.size ≤ w.heap.size + 2; omega) _)⟩, by simp [intOf]⟩
        rw [heap_setCell_other _ _ _ _ (by simp)]; exact H2.out
    · rw [show ((3 : Nat) : Int) = 3 from rfl]
      have ff : wr.frozen? ⟨w.heap.size + 2, 3, none⟩ = false := frozen_of_row _ _ _ _ _ H3.out
      go_wp2
      case roundEnd =>
        refine ⟨⟨3 + 1, p0, p1, p2, q3, by omega, rfl, Lib.hid ⟨fun _ => Hp.out.1 (by omega), fun _ => Hp.out.2.1 (by omega), fun _ => Hp.out.2.2.1 (by omega), fun _ => rfl⟩, Lib.hid ?_, Lib.hid (heap_setCell_same _ _ 3 _ _ (.float .f64 q3) H3.out), Lib.hid (Hb.out.setCell (p := ⟨w.heap.size + 2, 3, none⟩) (by show w.heap.size ≤ w.heap.size + 2; omega) _)⟩, by simp [intOf]⟩
        rw [heap_setCell_other _ _ _ _ (by simp)]; exact H2.out
    · rw [show ((4 : Nat) : Int) = 4 from rfl]
      obtain ⟨r0, r1, r2, r3⟩ := Hp.out
      obtain rfl := r0 (by omega)
      obtain rfl := r1 (by omega)
      obtain rfl := r2 (by omega)
      obtain rfl := r3 (by omega)
      have hd0 : wr.cell? ⟨w.heap.size + 1, 0, none⟩ = some (.float .f64 0) := by rw [cell_of_row _ _ _ _ _ _ H2.out]; rfl
      have hd1 : wr.cell? ⟨w.heap.size + 1, 1, none⟩ = some (.float .f64 0) := by rw [cell_of_row _ _ _ _ _ _ H2.out]; rfl
      have hd2 : wr.cell? ⟨w.heap.size + 1, 2, none⟩ = some (.float .f64 0) := by rw [cell_of_row _ _ _ _ _ _ H2.out]; rfl
      have hd3 : wr.cell? ⟨w.heap.size + 1, 3, none⟩ = some (.float .f64 0) := by rw [cell_of_row _ _ _ _ _ _ H2.out]; rfl
      have hf0 : wr.frozen? ⟨w.heap.size + 1, 0, none⟩ = false := frozen_of_row _ _ _ _ _ H2.out
      have hf1 : wr.frozen? ⟨w.heap.size + 1, 1, none⟩ = false := frozen_of_row _ _ _ _ _ H2.out
      have hf2 : wr.frozen? ⟨w.heap.size + 1, 2, none⟩ = false := frozen_of_row _ _ _ _ _ H2.out
      have hf3 : wr.frozen? ⟨w.heap.size + 1, 3, none⟩ = false := frozen_of_row _ _ _ _ _ H2.out
      have k0 := heap_setCell_same wr (w.heap.size + 1) 0 _ _ (.float .f64 p0) H2.out
      have k1 := heap_setCell_same _ (w.heap.size + 1) 1 _ _ (.float .f64 p1) k0
      have k2 := heap_setCell_same _ (w.heap.size + 1) 2 _ _ (.float .f64 p2) k1
      have K3 := Lib.hid (heap_setCell_same _ (w.heap.size + 1) 3 _ _ (.float .f64 p3) k2)
      clear k0 k1 k2
      go_wp2
      try simp only [Exit.inBlock, Exit.then]
      have hb9 (i : Nat) : w.heap.size ≤ (⟨w.heap.size + 1, i, none⟩ : Addr).block := by show w.heap.size ≤ w.heap.size + 1; omega
      exact bodyPost_ret (results_cell_row rfl _ _ (w.heap.size + 1) _ _ _ _ rfl K3.out Tryd.underlying37 rfl (by kernel_rfl)) rfl ⟨p0, p1, p2, p3, rfl, ⟨Q0.out, Q1.out, Q2.out, Q3.out⟩, (((Hb.out.setCell (p := ⟨w.heap.size + 1, 0, none⟩) (hb9 0) _).setCell (p := ⟨w.heap.size + 1, 1, none⟩) (hb9 1) _).setCell (p := ⟨w.heap.size + 1, 2, none⟩) (hb9 2) _).setCell (p := ⟨w.heap.size + 1, 3, none⟩) (hb9 3) _⟩
end Go.Proofs.YtlfclpdcingpnaaDoor
