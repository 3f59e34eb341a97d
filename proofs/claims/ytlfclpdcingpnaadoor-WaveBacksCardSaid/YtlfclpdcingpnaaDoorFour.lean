/- The four waves. -/
import Derived.Test.YtlfclpdcingpnaaDoorWaveRef2
import Derived.Deep.QuietTactic
import Derived.BigQuiet
open Go.RowKit
namespace Go.Proofs.YtlfclpdcingpnaaDoor
attribute [local go_sem] store_f store_c

theorem xor_top (r : Nat) (h : r < 9223372036854775808) : r ^^^ 9223372036854775808 = 9223372036854775808 + r ∧ (9223372036854775808 + r) ^^^ 9223372036854775808 = r := by
  have e : 9223372036854775808 + r = r ^^^ 9223372036854775808 := by
    have h2 : (9223372036854775808 : Nat) = 2 ^ 63 := by decide
    rw [h2] at h ⊢
    have h3 := Nat.two_pow_add_eq_or_of_lt h 1
    rw [Nat.mul_one] at h3
    rw [h3]
    apply Nat.eq_of_testBit_eq
    intro i
    rw [Nat.testBit_or, Nat.testBit_xor, Nat.testBit_two_pow]
    by_cases hi : 63 = i
    · subst hi
      have : r.testBit 63 = false := Nat.testBit_lt_two_pow h
      simp [this]
    · simp [hi]
  refine ⟨e.symm, ?_⟩
  rw [e, Nat.xor_assoc, Nat.xor_self, Nat.xor_zero]
theorem neg_word (s : Bool) (r : Nat) (h : r < 9223372036854775808) : Ieee.double.word s r ^^^ 9223372036854775808 = Ieee.double.word (!s) r := by
  have hw : Ieee.double.signWeight = 9223372036854775808 := by decide
  obtain ⟨h1, h2⟩ := xor_top r h
  unfold Ieee.Format.word
  rw [hw]
  cases s
  · exact h1
  · exact h2
theorem IsI.neg_ {x : Nat} {v : Int} (h : IsI x v) : IsI (Op.negFloat .f64 x) (-v) := by
  obtain ⟨s, m, rfl, hm, rfl⟩ := h
  refine ⟨!s, m, ?_, hm, (sv_not s m).symm⟩
  show wrote s m ^^^ 9223372036854775808 = _
  by_cases h0 : m = 0
  · subst h0
    have e (t : Bool) : wrote t 0 = Ieee.double.word t 0 := by simp [wrote, Ieee.Format.nearest]
    rw [e, e, neg_word _ _ (by omega)]
  · obtain ⟨L, t, hL, ht, hsh, hw⟩ := wrote_word s m h0 hm
    obtain ⟨L', t', hL', ht', hsh', hw'⟩ := wrote_word (!s) m h0 hm
    have hlog : ∀ (L t : Nat), L ≤ 52 → t < 4503599627370496 → m <<< (52 - L) = 4503599627370496 + t → L = m.log2 := by
      intro L t hL ht hsh
      have h2 : (m <<< (52 - L)).log2 = m.log2 + (52 - L) := by rw [Nat.shiftLeft_eq]; exact log2_mul_pow m h0 _
      have h3 : (4503599627370496 + t).log2 = 52 := by
        rw [Nat.log2_eq_iff (by omega)]
        constructor
        · have : (2 : Nat) ^ 52 = 4503599627370496 := by decide
          omega
        · have : (2 : Nat) ^ (52 + 1) = 9007199254740992 := by decide
          omega
      rw [hsh, h3] at h2
      omega
    have hLL : L = L' := (hlog L t hL ht hsh).trans (hlog L' t' hL' ht' hsh').symm
    subst hLL
    have htt : t = t' := by omega
    subst htt
    rw [hw, hw', neg_word _ _ (by omega)]

set_option maxHeartbeats 1000000 in
set_option maxRecDepth 100000 in
theorem four_any (x0 x1 x2 x3 : Nat) (v0 v1 v2 v3 : Int) (h0 : IsI x0 v0) (h1 : IsI x1 v1) (h2 : IsI x2 v2) (h3 : IsI x3 v3) (b0 : v0.natAbs ≤ 100000) (b1 : v1.natAbs ≤ 100000) (b2 : v2.natAbs ≤ 100000) (b3 : v3.natAbs ≤ 100000) (w : World) :
    Calls Tryd.prog 13 #[.agg #[.float .f64 x0, .float .f64 x1, .float .f64 x2, .float .f64 x3]] w fun e w' => ∃ a0 a1 c1 a2 a3 c3, e = .returned (.agg #[.complex .f64 a0 0, .complex .f64 a1 c1, .complex .f64 a2 0, .complex .f64 a3 c3]) ∧
      (IsI a0 (v0 + v2 + (v1 + v3)) ∧ IsI a1 (v0 - v2) ∧ IsI c1 (-(v1 - v3)) ∧ IsI a2 (v0 + v2 - (v1 + v3)) ∧ IsI a3 (v0 - v2) ∧ IsI c3 (v1 - v3)) ∧ Below w.heap.size w w' := by
  obtain ⟨ev, r1, e1⟩ := h0.add h2 (by omega)
  obtain ⟨od, r2, e2⟩ := h1.add h3 (by omega)
  obtain ⟨a, r3, e3⟩ := h0.sub h2 (by omega)
  obtain ⟨b, r4, e4⟩ := h1.sub h3 (by omega)
  obtain ⟨s, r5, e5⟩ := e1.add e2 (by omega)
  obtain ⟨d, r6, e6⟩ := e1.sub e2 (by omega)
  have q1 := fun W : World => run_float_arith (P := Tryd.prog) W .add 36 .f64 x0 x2 ev r1
  have q2 := fun W : World => run_float_arith (P := Tryd.prog) W .add 36 .f64 x1 x3 od r2
  have q3 := fun W : World => run_float_arith (P := Tryd.prog) W .sub 36 .f64 x0 x2 a r3
  have q4 := fun W : World => run_float_arith (P := Tryd.prog) W .sub 36 .f64 x1 x3 b r4
  have q5 := fun W : World => run_float_arith (P := Tryd.prog) W .add 36 .f64 ev od s r5
  have q6 := fun W : World => run_float_arith (P := Tryd.prog) W .sub 36 .f64 ev od d r6
  have q7 : ∀ W : World, (Op.unary .neg (.float .f64 b)).run Tryd.prog W = .ok (.float .f64 (Op.negFloat .f64 b)) W := fun W => rfl
  have H := Lib.hid (show IsI s (v0 + v2 + (v1 + v3)) ∧ IsI a (v0 - v2) ∧ IsI (Op.negFloat .f64 b) (-(v1 - v3)) ∧ IsI d (v0 + v2 - (v1 + v3)) ∧ IsI a (v0 - v2) ∧ IsI b (v1 - v3) from ⟨e5, e3, e4.neg_, e6, e3, e4⟩)
  clear r1 r2 r3 r4 r5 r6 e1 e2 e3 e4 e5 e6 h0 h1 h2 h3
  generalize Op.negFloat .f64 b = nb at q7 H
  have hb1 := ((Below.refl w.heap.size w).alloc (Nat.le_refl _) (.cells #[.float .f64 x0, .float .f64 x1, .float .f64 x2, .float .f64 x3] 37)).alloc (by rw [size_alloc]; omega) (.cells #[.complex .f64 0 0, .complex .f64 0 0, .complex .f64 0 0, .complex .f64 0 0] 39)
  have hg0 : ((w.alloc (.cells #[.float .f64 x0, .float .f64 x1, .float .f64 x2, .float .f64 x3] 37)).alloc (.cells #[.complex .f64 0 0, .complex .f64 0 0, .complex .f64 0 0, .complex .f64 0 0] 39)).heap[w.heap.size]? = some (.cells #[.float .f64 x0, .float .f64 x1, .float .f64 x2, .float .f64 x3] 37 (0, 0)) := by
    rw [heap_alloc_old _ _ (by rw [size_alloc]; omega)]; exact heap_alloc_new _ _
  have hg1 := heap_alloc_new (w.alloc (.cells #[.float .f64 x0, .float .f64 x1, .float .f64 x2, .float .f64 x3] 37)) (.cells #[.complex .f64 0 0, .complex .f64 0 0, .complex .f64 0 0, .complex .f64 0 0] 39)
  rw [size_alloc] at hg1
  go_enter Tryd.func13, Tryd.ntmps13
  go_wp2_with fail
  generalize (w.alloc (.cells #[.float .f64 x0, .float .f64 x1, .float .f64 x2, .float .f64 x3] 37)).alloc (.cells #[.complex .f64 0 0, .complex .f64 0 0, .complex .f64 0 0, .complex .f64 0 0] 39) = w1 at hb1 hg0 hg1 ⊢
  have c0 : w1.cell? ⟨w.heap.size, 0, none⟩ = some (.float .f64 x0) := by rw [cell_of_row _ _ _ _ _ _ hg0]; rfl
  have c1 : w1.cell? ⟨w.heap.size, 1, none⟩ = some (.float .f64 x1) := by rw [cell_of_row _ _ _ _ _ _ hg0]; rfl
  have c2 : w1.cell? ⟨w.heap.size, 2, none⟩ = some (.float .f64 x2) := by rw [cell_of_row _ _ _ _ _ _ hg0]; rfl
  have c3 : w1.cell? ⟨w.heap.size, 3, none⟩ = some (.float .f64 x3) := by rw [cell_of_row _ _ _ _ _ _ hg0]; rfl
  have Hb1 := Lib.hid hb1
  have Hg1 := Lib.hid hg1
  clear hb1 hg0 hg1
  go_quiet (fail)
  go_wp2_with fail
  go_quiet (fail)
  have d0 : w1.cell? ⟨w.heap.size + 1, 0, none⟩ = some (.complex .f64 0 0) := by rw [cell_of_row _ _ _ _ _ _ Hg1.out]; rfl
  have d1 : w1.cell? ⟨w.heap.size + 1, 1, none⟩ = some (.complex .f64 0 0) := by rw [cell_of_row _ _ _ _ _ _ Hg1.out]; rfl
  have d2 : w1.cell? ⟨w.heap.size + 1, 2, none⟩ = some (.complex .f64 0 0) := by rw [cell_of_row _ _ _ _ _ _ Hg1.out]; rfl
  have d3 : w1.cell? ⟨w.heap.size + 1, 3, none⟩ = some (.complex .f64 0 0) := by rw [cell_of_row _ _ _ _ _ _ Hg1.out]; rfl
  have f0 : w1.frozen? ⟨w.heap.size + 1, 0, none⟩ = false := frozen_of_row _ _ _ _ _ Hg1.out
  have f1 : w1.frozen? ⟨w.heap.size + 1, 1, none⟩ = false := frozen_of_row _ _ _ _ _ Hg1.out
  have f2 : w1.frozen? ⟨w.heap.size + 1, 2, none⟩ = false := frozen_of_row _ _ _ _ _ Hg1.out
  have f3 : w1.frozen? ⟨w.heap.size + 1, 3, none⟩ = false := frozen_of_row _ _ _ _ _ Hg1.out
  have g0 := heap_setCell_same w1 (w.heap.size + 1) 0 _ _ (.complex .f64 s 0) Hg1.out
  have g1 := heap_setCell_same _ (w.heap.size + 1) 1 _ _ (.complex .f64 a (nb)) g0
  have g2 := heap_setCell_same _ (w.heap.size + 1) 2 _ _ (.complex .f64 d 0) g1
  have G3 := Lib.hid (heap_setCell_same _ (w.heap.size + 1) 3 _ _ (.complex .f64 a b) g2)
  clear g0 g1 g2
  go_wp2_with fail
  try simp only [Exit.inBlock, Exit.then]
  have hb9 (i : Nat) : w.heap.size ≤ (⟨w.heap.size + 1, i, none⟩ : Addr).block := by show w.heap.size ≤ w.heap.size + 1; omega
  have hfin := ((((Hb1.out.setCell (p := ⟨w.heap.size + 1, 0, none⟩) (hb9 0) (.complex .f64 s 0)).setCell (p := ⟨w.heap.size + 1, 1, none⟩) (hb9 1) (.complex .f64 a (nb))).setCell (p := ⟨w.heap.size + 1, 2, none⟩) (hb9 2) (.complex .f64 d 0)).setCell (p := ⟨w.heap.size + 1, 3, none⟩) (hb9 3) (.complex .f64 a b))
  exact bodyPost_ret (results_cell_row rfl _ _ (w.heap.size + 1) _ _ _ _ rfl G3.out Tryd.underlying39 rfl (by kernel_rfl)) rfl ⟨s, a, nb, d, a, b, rfl, H.out, hfin.os, hfin.tape, hfin.output, hfin.size, hfin.block⟩
end Go.Proofs.YtlfclpdcingpnaaDoor
