/- What any four waves are back. -/
import Derived.Test.YtlfclpdcingpnaaDoorSums
import Derived.Test.YtlfclpdcingpnaaDoorQuo
open Go.RowKit
namespace Go.Proofs.YtlfclpdcingpnaaDoor
attribute [local go_sem] store_f store_c

theorem cmul_wide {x y u v : Nat} {a b c d : Int} (hx : IsI x a) (hy : IsI y b) (hu : IsI u c) (hv : IsI v d) (ha : a.natAbs ≤ 1099511627776) (hb : b.natAbs ≤ 1099511627776) (hc : c.natAbs ≤ 1) (hd : d.natAbs ≤ 1) :
    ∃ re im, cMulBits x y u v = some (re, im) ∧ IsI re (a * c - b * d) ∧ IsI im (a * d + b * c) := by
  have m (p q : Int) (hp : p.natAbs ≤ 1099511627776) (hq : q.natAbs ≤ 1) : (p * q).natAbs ≤ 1099511627776 := by
    rw [Int.natAbs_mul]; exact Nat.le_trans (Nat.mul_le_mul hp hq) (by omega)
  have m1 := m a c ha hc
  have m2 := m b d hb hd
  have m3 := m a d ha hd
  have m4 := m b c hb hc
  obtain ⟨ac, h1, i1⟩ := hx.mul hu (by omega)
  obtain ⟨bd, h2, i2⟩ := hy.mul hv (by omega)
  obtain ⟨re, h3, i3⟩ := i1.sub i2 (by omega)
  obtain ⟨ad, h4, i4⟩ := hx.mul hv (by omega)
  obtain ⟨bc, h5, i5⟩ := hy.mul hu (by omega)
  obtain ⟨im, h6, i6⟩ := i4.add i5 (by omega)
  exact ⟨re, im, by unfold cMulBits; simp only [h1, h2, h3, h4, h5, h6, Option.bind_some], i3, i6⟩

/-- Four complex numbers, four floats, as cells. -/
def cxs (u v : Nat → Nat) : Array Value := #[.complex .f64 (u 0) (v 0), .complex .f64 (u 1) (v 1), .complex .f64 (u 2) (v 2), .complex .f64 (u 3) (v 3)]
def fls (g : Nat → Nat) : Array Value := #[.float .f64 (g 0), .float .f64 (g 1), .float .f64 (g 2), .float .f64 (g 3)]
def upn (f : Nat → Nat) (j v : Nat) : Nat → Nat := fun i => if i = j then v else f i
theorem fls_set (g : Nat → Nat) (j : Nat) (hj : j < 4) (v : Nat) : (fls g).setIfInBounds j (.float .f64 v) = fls (upn g j v) := by
  rcases (by omega : j = 0 ∨ j = 1 ∨ j = 2 ∨ j = 3) with rfl | rfl | rfl | rfl <;> rfl
theorem fls_get (g : Nat → Nat) (j : Nat) (hj : j < 4) : (fls g)[j]? = some (.float .f64 (g j)) := by
  rcases (by omega : j = 0 ∨ j = 1 ∨ j = 2 ∨ j = 3) with rfl | rfl | rfl | rfl <;> rfl
theorem cxs_get (u v : Nat → Nat) (j : Nat) (hj : j < 4) : (cxs u v)[j]? = some (.complex .f64 (u j) (v j)) := by
  rcases (by omega : j = 0 ∨ j = 1 ∨ j = 2 ∨ j = 3) with rfl | rfl | rfl | rfl <;> rfl
theorem index_cxs (u v : Nat → Nat) (k : Nat) (hk : k < 4) (W : World) : (Instr.index 39 (.agg #[.complex .f64 (u 0) (v 0), .complex .f64 (u 1) (v 1), .complex .f64 (u 2) (v 2), .complex .f64 (u 3) (v 3)]) (.int .i64 (k : Int))).run Tryd.prog W = .ok (.complex .f64 (u k) (v k)) W := by
  rcases (by omega : k = 0 ∨ k = 1 ∨ k = 2 ∨ k = 3) with rfl | rfl | rfl | rfl <;> kernel_rfl
def zeroF : Nat → Nat := fun _ => 0
/-- A float that is a quarter of a number. -/
def Quarter (x : Nat) (n : Int) : Prop := ∃ y, IsI y n ∧ floatBits .quo .f64 y four64 = some x

set_option maxHeartbeats 2000000 in
set_option maxRecDepth 100000 in
theorem back_any (u v : Nat → Nat) (f : Nat → Int × Int) (hf : ∀ k, k < 4 → IsI (u k) (f k).1 ∧ IsI (v k) (f k).2) (hb : ∀ k, k < 4 → (f k).1.natAbs ≤ 1099511627776 ∧ (f k).2.natAbs ≤ 1099511627776) (w : World) :
    Calls Tryd.prog 23 #[.agg (cxs u v)] w fun e w' => ∃ x, e = .returned (.agg (fls x)) ∧ (∀ j, j < 4 → Quarter (x j) (part35 f j 4).1) ∧ Below w.heap.size w w' := by
  have Hf := Lib.hid hf
  have HB := Lib.hid hb
  clear hf hb
  have hb1 := (((Below.refl w.heap.size w).alloc (Nat.le_refl _) (.cells (cxs u v) 39)).alloc (by rw [size_alloc]; omega) (.cells #[.float .f64 0, .float .f64 0, .float .f64 0, .float .f64 0] 37)).alloc (by rw [size_alloc, size_alloc]; omega) (.cells #[.float .f64 0, .float .f64 0, .float .f64 0, .float .f64 0] 37)
  have hs1 : (((w.alloc (.cells (cxs u v) 39)).alloc (.cells #[.float .f64 0, .float .f64 0, .float .f64 0, .float .f64 0] 37)).alloc (.cells #[.float .f64 0, .float .f64 0, .float .f64 0, .float .f64 0] 37)).heap.size = w.heap.size + 3 := by rw [size_alloc, size_alloc, size_alloc]
  have hg1 : (((w.alloc (.cells (cxs u v) 39)).alloc (.cells #[.float .f64 0, .float .f64 0, .float .f64 0, .float .f64 0] 37)).alloc (.cells #[.float .f64 0, .float .f64 0, .float .f64 0, .float .f64 0] 37)).heap[w.heap.size]? = some (.cells (cxs u v) 39 (0, 0)) := by
    rw [heap_alloc_old _ _ (by rw [size_alloc, size_alloc]; omega), heap_alloc_old _ _ (by rw [size_alloc]; omega)]; exact heap_alloc_new _ _
  have hg2 : (((w.alloc (.cells (cxs u v) 39)).alloc (.cells #[.float .f64 0, .float .f64 0, .float .f64 0, .float .f64 0] 37)).alloc (.cells #[.float .f64 0, .float .f64 0, .float .f64 0, .float .f64 0] 37)).heap[w.heap.size + 1]? = some (.cells #[.float .f64 0, .float .f64 0, .float .f64 0, .float .f64 0] 37 (0, 0)) := by
    have := heap_alloc_new (w.alloc (.cells (cxs u v) 39)) (.cells #[.float .f64 0, .float .f64 0, .float .f64 0, .float .f64 0] 37)
    rw [size_alloc] at this
    rw [heap_alloc_old _ _ (by rw [size_alloc, size_alloc]; omega)]; exact this
  have hg3 := heap_alloc_new ((w.alloc (.cells (cxs u v) 39)).alloc (.cells #[.float .f64 0, .float .f64 0, .float .f64 0, .float .f64 0] 37)) (.cells #[.float .f64 0, .float .f64 0, .float .f64 0, .float .f64 0] 37)
  rw [size_alloc, size_alloc] at hg3
  go_enter Tryd.func23, Tryd.ntmps23
  go_wp2
  generalize ((w.alloc (.cells (cxs u v) 39)).alloc (.cells #[.float .f64 0, .float .f64 0, .float .f64 0, .float .f64 0] 37)).alloc (.cells #[.float .f64 0, .float .f64 0, .float .f64 0, .float .f64 0] 37) = w1 at hb1 hs1 hg1 hg2 hg3 ⊢
  have Hb1 := Lib.hid hb1
  have Hs1 := Lib.hid (show w.heap.size + 3 ≤ w1.heap.size by omega)
  have Hg1 := Lib.hid hg1
  have Hg2 : Hid (w1.heap[w.heap.size + 1]? = some (.cells (fls zeroF) 37 (0, 0))) := Lib.hid hg2
  have Hg3 : Hid (w1.heap[w.heap.size + 2]? = some (.cells (fls zeroF) 37 (0, 0))) := Lib.hid hg3
  clear hb1 hs1 hg1 hg2 hg3
  go_loopw [8] (fun i wr => ∃ (j : Nat) (g : Nat → Nat), j ≤ 4 ∧ i = .int .i64 j ∧ Hid (∀ i, i < j → Quarter (g i) (part35 f i 4).1) ∧ Hid (wr.heap[w.heap.size]? = some (.cells (cxs u v) 39 (0, 0))) ∧ Hid (wr.heap[w.heap.size + 1]? = some (.cells (fls zeroF) 37 (0, 0))) ∧ Hid (wr.heap[w.heap.size + 2]? = some (.cells (fls g) 37 (0, 0))) ∧ Hid (w.heap.size + 3 ≤ wr.heap.size) ∧ Hid (Below w.heap.size w wr)) (fun i _ => 4 - (intOf i).toNat)
  case atStart => exact ⟨0, zeroF, by omega, rfl, by intro i hi; omega, Hg1, Hg2, Hg3, Hs1, Hb1⟩
  case round =>
    clear Hg1 Hg2 Hg3 Hs1 Hb1
    obtain ⟨j, g, hj, rfl, Hgo, H1, H2, H3, Hs, Hb⟩ := hrel
    by_cases hj4 : j < 4
    · have c0 : wr.cell? ⟨w.heap.size, 0, none⟩ = some (.complex .f64 (u 0) (v 0)) := by rw [cell_of_row _ _ _ _ _ _ H1.out]; rfl
      have c1 : wr.cell? ⟨w.heap.size, 1, none⟩ = some (.complex .f64 (u 1) (v 1)) := by rw [cell_of_row _ _ _ _ _ _ H1.out]; rfl
      have c2 : wr.cell? ⟨w.heap.size, 2, none⟩ = some (.complex .f64 (u 2) (v 2)) := by rw [cell_of_row _ _ _ _ _ _ H1.out]; rfl
      have c3 : wr.cell? ⟨w.heap.size, 3, none⟩ = some (.complex .f64 (u 3) (v 3)) := by rw [cell_of_row _ _ _ _ _ _ H1.out]; rfl
      have hlt : decide ((j : Int) < 4) = true := by simp; omega
      go_wp2
      clear c0 c1 c2 c3
      go_loopw [5, 12] (fun s i wr => ∃ (k x y : Nat), k ≤ 4 ∧ i = .int .i64 k ∧ s = .complex .f64 x y ∧ Hid (IsI x (part35 f j k).1 ∧ IsI y (part35 f j k).2) ∧ Hid (wr.heap[w.heap.size]? = some (.cells (cxs u v) 39 (0, 0))) ∧ Hid (wr.heap[w.heap.size + 1]? = some (.cells (fls zeroF) 37 (0, 0))) ∧ Hid (wr.heap[w.heap.size + 2]? = some (.cells (fls g) 37 (0, 0))) ∧ Hid (w.heap.size + 3 ≤ wr.heap.size) ∧ Hid (Below w.heap.size w wr)) (fun _ i _ => 4 - (intOf i).toNat)
      case atStart => exact ⟨0, 0, 0, by omega, rfl, rfl, by rw [part35_zero]; exact ⟨IsI.zero, IsI.zero⟩, H1, H2, H3, Hs, Hb⟩
      case round =>
        clear H1 H2 H3 Hs Hb
        obtain ⟨k, x, y, hk, rfl, rfl, Hxy, H1, H2, H3, Hs, Hb⟩ := hrel
        by_cases hk4 : k < 4
        · have hjk : IntKind.i64.wrap ((j : Int) * (k : Int)) = ((j * k : Nat) : Int) := by
            rw [← Int.natCast_mul]
            have : j * k ≤ 16 := Nat.mul_le_mul (show j ≤ 4 by omega) (show k ≤ 4 by omega)
            simp only [IntKind.wrap, IntKind.signed, IntKind.bits]
            generalize j * k = z at this ⊢
            simp
            omega
          have hlt2 : decide ((k : Int) < 4) = true := by simp; omega
          have hix := index_cxs u v k hk4
          go_wp2_with fail
          clear hix hlt2 hjk
          try rw [show ((j : Int) * (k : Int)) = ((j * k : Nat) : Int) from (Int.natCast_mul j k).symm]
          refine (turn_any ((j * k : Nat) : Int) _).mono ?_
          rintro e w5 ⟨rfl, hb5⟩
          obtain ⟨t1, t2⟩ := turnZ_abs ((j * k : Nat) : Int)
          obtain ⟨s1, s2⟩ := turn_is ((j * k : Nat) : Int)
          obtain ⟨f1, f2⟩ := HB.out k hk4
          obtain ⟨i1, i2⟩ := Hf.out k hk4
          have hps := part35_succ f j k
          have hab := part35_abs f _ HB.out j k (by omega)
          have m1 := unit_mul _ _ _ t1 f1
          have m2 := unit_mul _ _ _ t2 f2
          have m3 := unit_mul _ _ _ t1 f2
          have m4 := unit_mul _ _ _ t2 f1
          have hM : (1099511627776 + 1099511627776) * k ≤ 8796093022208 := by omega
          obtain ⟨re, im, hmul, hre, him⟩ := cmul_wide i1 i2 s1 s2 f1 f2 t1 t2
          rw [Int.mul_comm (f k).1, Int.mul_comm (f k).2] at hre
          rw [Int.mul_comm (f k).1, Int.mul_comm (f k).2, Int.add_comm] at him
          obtain ⟨sr, hsr, isr⟩ := Hxy.out.1.add hre (by omega)
          obtain ⟨si, hsi, isi⟩ := Hxy.out.2.add him (by omega)
          have Hnew : Hid (IsI sr (part35 f j (k + 1)).1 ∧ IsI si (part35 f j (k + 1)).2) := Lib.hid (by rw [hps]; exact ⟨isr, isi⟩)
          have Hb5 := Lib.hid (Hb.out.trans (hb5.mono (B' := w.heap.size) Hb.out.size))
          have hs := Hs.out
          have K1 := Lib.hid ((hb5.block w.heap.size (by omega)).trans H1.out)
          have K2 := Lib.hid ((hb5.block (w.heap.size + 1) (by omega)).trans H2.out)
          have K3 := Lib.hid ((hb5.block (w.heap.size + 2) (by omega)).trans H3.out)
          have Hs5 := Lib.hid (Nat.le_trans hs hb5.size)
          generalize turnB ((j * k : Nat) : Int) = tb at hmul ⊢
          obtain ⟨tb0, tb1⟩ := tb
          have qm := fun W : World => run_complex_mul (P := Tryd.prog) W 31 (u k) (v k) tb0 tb1 re im hmul
          have qa := fun W : World => run_complex_sum (P := Tryd.prog) W .add (.inl rfl) 31 .f64 x y re im sr si (by unfold cSumBits; rw [hsr, hsi]; rfl)
          clear t1 t2 s1 s2 f1 f2 i1 i2 hps hab m1 m2 m3 m4 hM hmul hre him hsr hsi isr isi hs hb5
          go_wp2_with fail
          case roundEnd =>
            exact ⟨⟨k + 1, sr, si, by omega, by push_cast; rfl, rfl, Hnew, K1, K2, K3, Hs5, Hb5⟩, by simp only [intOf]; omega⟩
        · obtain rfl : k = 4 := by omega
          have hlt2 : decide (((4 : Nat) : Int) < 4) = false := by simp
          obtain ⟨p, q, hp, _, _⟩ := quo_same Hxy.out.1 Hxy.out.1
          have hq := fun W : World => run_float_arith (P := Tryd.prog) W .quo 36 .f64 x four64 p hp
          have Hp := Lib.hid (show Quarter p (part35 f j 4).1 from ⟨x, Hxy.out.1, hp⟩)
          have e1 := heap_setCell_same wr (w.heap.size + 2) j _ _ (.float .f64 p) H3.out
          rw [fls_set g j hj4] at e1
          have E1 := Lib.hid e1
          have cx : wr.cell? ⟨w.heap.size + 2, j, none⟩ = some (.float .f64 (g j)) := by rw [cell_of_row _ _ _ _ _ _ H3.out]; exact fls_get g j hj4
          have fx : wr.frozen? ⟨w.heap.size + 2, j, none⟩ = false := frozen_of_row _ _ _ _ _ H3.out
          have HS : Hid (w.heap.size + 3 ≤ (wr.setCell ⟨w.heap.size + 2, j, none⟩ (.float .f64 p)).heap.size) := Lib.hid (by simp only [World.setCell, Array.size_modify]; exact Hs.out)
          clear e1 hp
          simp only [four64] at hq
          go_wp2_with fail
          case roundEnd =>
            refine ⟨⟨j + 1, upn g j p, by omega, by push_cast; rfl, Lib.hid fun i hi => ?_, Lib.hid ?_, Lib.hid ?_, E1, HS, Lib.hid (Hb.out.setCell (p := ⟨w.heap.size + 2, j, none⟩) (by show w.heap.size ≤ w.heap.size + 2; omega) _)⟩, by simp only [intOf]; omega⟩
            · by_cases hij : i = j
              · subst hij; rw [upn, if_pos rfl]; exact Hp.out
              · rw [upn, if_neg hij]; exact Hgo.out i (by omega)
            · rw [heap_setCell_other _ _ _ _ (by simp <;> omega)]; exact H1.out
            · rw [heap_setCell_other _ _ _ _ (by simp <;> omega)]; exact H2.out
    · obtain rfl : j = 4 := by omega
      have a0 : wr.cell? ⟨w.heap.size + 2, 0, none⟩ = some (.float .f64 (g 0)) := by rw [cell_of_row _ _ _ _ _ _ H3.out]; rfl
      have a1 : wr.cell? ⟨w.heap.size + 2, 1, none⟩ = some (.float .f64 (g 1)) := by rw [cell_of_row _ _ _ _ _ _ H3.out]; rfl
      have a2 : wr.cell? ⟨w.heap.size + 2, 2, none⟩ = some (.float .f64 (g 2)) := by rw [cell_of_row _ _ _ _ _ _ H3.out]; rfl
      have a3 : wr.cell? ⟨w.heap.size + 2, 3, none⟩ = some (.float .f64 (g 3)) := by rw [cell_of_row _ _ _ _ _ _ H3.out]; rfl
      have hd0 : wr.cell? ⟨w.heap.size + 1, 0, none⟩ = some (.float .f64 0) := by rw [cell_of_row _ _ _ _ _ _ H2.out]; rfl
      have hd1 : wr.cell? ⟨w.heap.size + 1, 1, none⟩ = some (.float .f64 0) := by rw [cell_of_row _ _ _ _ _ _ H2.out]; rfl
      have hd2 : wr.cell? ⟨w.heap.size + 1, 2, none⟩ = some (.float .f64 0) := by rw [cell_of_row _ _ _ _ _ _ H2.out]; rfl
      have hd3 : wr.cell? ⟨w.heap.size + 1, 3, none⟩ = some (.float .f64 0) := by rw [cell_of_row _ _ _ _ _ _ H2.out]; rfl
      have hf0 : wr.frozen? ⟨w.heap.size + 1, 0, none⟩ = false := frozen_of_row _ _ _ _ _ H2.out
      have hf1 : wr.frozen? ⟨w.heap.size + 1, 1, none⟩ = false := frozen_of_row _ _ _ _ _ H2.out
      have hf2 : wr.frozen? ⟨w.heap.size + 1, 2, none⟩ = false := frozen_of_row _ _ _ _ _ H2.out
      have hf3 : wr.frozen? ⟨w.heap.size + 1, 3, none⟩ = false := frozen_of_row _ _ _ _ _ H2.out
      have k0 := heap_setCell_same wr (w.heap.size + 1) 0 _ _ (.float .f64 (g 0)) H2.out
      have k1 := heap_setCell_same _ (w.heap.size + 1) 1 _ _ (.float .f64 (g 1)) k0
      have k2 := heap_setCell_same _ (w.heap.size + 1) 2 _ _ (.float .f64 (g 2)) k1
      have K3 := Lib.hid (heap_setCell_same _ (w.heap.size + 1) 3 _ _ (.float .f64 (g 3)) k2)
      clear k0 k1 k2
      have hlt : decide (((4 : Nat) : Int) < 4) = false := by simp
      go_wp2
      try simp only [Exit.inBlock, Exit.then]
      have hb9 (i : Nat) : w.heap.size ≤ (⟨w.heap.size + 1, i, none⟩ : Addr).block := by show w.heap.size ≤ w.heap.size + 1; omega
      exact bodyPost_ret (results_cell_row rfl _ _ (w.heap.size + 1) _ _ _ _ rfl K3.out Tryd.underlying37 rfl (by kernel_rfl)) rfl ⟨g, rfl, Hgo.out, (((Hb.out.setCell (p := ⟨w.heap.size + 1, 0, none⟩) (hb9 0) _).setCell (p := ⟨w.heap.size + 1, 1, none⟩) (hb9 1) _).setCell (p := ⟨w.heap.size + 1, 2, none⟩) (hb9 2) _).setCell (p := ⟨w.heap.size + 1, 3, none⟩) (hb9 3) _⟩
end Go.Proofs.YtlfclpdcingpnaaDoor
