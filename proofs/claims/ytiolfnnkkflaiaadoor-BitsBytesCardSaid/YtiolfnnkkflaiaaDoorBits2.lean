/- Sets: whether one is there, one less. -/
import Derived.Test.YtiolfnnkkflaiaaDoorBits1
import Derived.IntWalk
open Go.RowKit
namespace Go.Proofs.YtiolfnnkkflaiaaDoor

def hasZ (a b : Nat) (i : Int) : Bool := if 0 ≤ i ∧ i < 128 then has a b i.toNat else false
theorem hasZ_in {a b i : Nat} (h : i < 128) : hasZ a b (i : Int) = has a b i := by unfold hasZ; rw [if_pos (by omega), Int.toNat_natCast]
theorem hasZ_out {a b : Nat} {i : Int} (h : i < 0 ∨ 128 ≤ i) : hasZ a b i = false := by unfold hasZ; rw [if_neg (by omega)]
theorem has_split (a b k r : Nat) (hk : k < 2) (hr : r < 64) : has a b (64 * k + r) = (wd a b k).testBit r := by
  rcases (by omega : k = 0 ∨ k = 1) with rfl | rfl
  · simp [has, wd, hr]
  · have n64 : ¬ (64 + r < 64) := by omega
    simp [has, wd, n64]
/-- A number from 0 to 127 as a word's, and the bit's. -/
theorem split64 (i : Int) (h0 : 0 ≤ i) (h1 : i < 128) : ∃ k r : Nat, k < 2 ∧ r < 64 ∧ i = 64 * (k : Int) + r ∧ i / 64 = (k : Int) ∧ i % 64 = (r : Int) ∧ i.tmod 64 = (r : Int) ∧ i.tdiv 64 = (k : Int) ∧ i.toNat = 64 * k + r := by
  refine ⟨(i / 64).toNat, (i % 64).toNat, by omega, by omega, by omega, by omega, by omega, ?_, ?_, by omega⟩
  · rw [Int.tmod_eq_emod_of_nonneg h0]; omega
  · rw [Int.tdiv_eq_ediv_of_nonneg h0]; omega

theorem refHas_out (a b : Nat) (i : Int) (h : i < 0 ∨ 128 ≤ i) (w : World) :
    Calls Tryd.prog 14 #[.agg #[.int .u64 a, .int .u64 b], .int .i64 i] w fun e w' => e = .returned (.bool false) ∧ Below w.heap.size w w' := by
  by_cases h0 : i < 0
  · clear h
    go_enter Tryd.func14, Tryd.ntmps14
    go_wp2
    go_ret
    exact ⟨rfl, (Below.refl _ _).alloc (Nat.le_refl _) _⟩
  · have h1 : 128 ≤ i := by omega
    clear h
    go_enter Tryd.func14, Tryd.ntmps14
    go_wp2
    go_ret
    exact ⟨rfl, (Below.refl _ _).alloc (Nat.le_refl _) _⟩
theorem refHas_any (a b : Nat) (i : Int) (ha : a < 18446744073709551616) (hb : b < 18446744073709551616) (w : World) :
    Calls Tryd.prog 14 #[.agg #[.int .u64 a, .int .u64 b], .int .i64 i] w fun e w' => e = .returned (.bool (hasZ a b i)) ∧ Below w.heap.size w w' := by
  by_cases h : 0 ≤ i ∧ i < 128
  · obtain ⟨i, rfl⟩ := Int.eq_ofNat_of_zero_le h.1
    rw [hasZ_in (by omega)]
    exact has_any a b i ha hb (by omega) w
  · rw [hasZ_out (by omega)]
    exact refHas_out a b i (by omega) w

set_option maxRecDepth 100000 in
theorem bitsHas_any (a b : Nat) (i : Int) (ha : a < 18446744073709551616) (hb : b < 18446744073709551616) (w : World) :
    Calls Tryd.prog 13 #[.agg #[.int .u64 a, .int .u64 b], .int .i64 i] w fun e w' => e = .returned (.bool (hasZ a b i)) ∧ Below w.heap.size w w' := by
  obtain ⟨hb1, hg1, _⟩ := alloc1 w (sv2 a b) 26
  by_cases h : 0 ≤ i ∧ i < 128
  · obtain ⟨k, r, hk, hr, hi, q1, q2, q3, q4, q5⟩ := split64 i h.1 h.2
    have Hz := Lib.hid (show hasZ a b i = (wd a b k).testBit r by unfold hasZ; rw [if_pos h, q5, has_split a b k r hk hr])
    have key := key_has (wd a b k) r (wd_lt a b k ha hb)
    have hc := (cell_at hg1 k (sv2_get a b k hk)).1
    have hr := Lib.hid (right10_yes i h)
    clear ha hb hi q5 hg1 h
    generalize wd a b k = v at *
    go_enter Tryd.func13, Tryd.ntmps13
    go_wp2_with fail
    change Calls _ _ _ (w.alloc (.cells (sv2 a b) 26)) _
    generalize w.alloc (.cells (sv2 a b) 26) = w1 at hb1 hc ⊢
    have Hb1 := Lib.hid hb1
    clear hb1
    refine (hr.out w1).mono ?_
    rintro e w2 ⟨rfl, rfl⟩
    go_wp2_with fail
    go_ret
    exact ⟨by rw [Hz.out]; first | rfl | (rw [key]), Hb1.out⟩
  · have hr := Lib.hid (right10_no i (by omega))
    have Hz := Lib.hid (hasZ_out (a := a) (b := b) (i := i) (by omega))
    clear ha hb hg1 h
    go_enter Tryd.func13, Tryd.ntmps13
    go_wp2_with fail
    change Calls _ _ _ (w.alloc (.cells (sv2 a b) 26)) _
    generalize w.alloc (.cells (sv2 a b) 26) = w1 at hb1 ⊢
    have Hb1 := Lib.hid hb1
    clear hb1
    refine (hr.out w1).mono ?_
    rintro e w2 ⟨rfl, rfl⟩
    go_wp2_with fail
    go_ret
    exact ⟨by rw [Hz.out]; rfl, Hb1.out⟩

/-! ### one less -/
def sdelZ (a b : Nat) (i : Int) : Nat × Nat := if 0 ≤ i ∧ i < 128 then sdel a b i.toNat else (a, b)
theorem key_andn (x r : Nat) (hx : x < 18446744073709551616) (hr : r < 64) : bits BinOp.andNot IntKind.u64 (x : Int) (IntKind.u64.wrap (2 ^ r)) = ((andn x (2 ^ r) : Nat) : Int) := by
  have h1 := two_pow_lt64 r hr
  have h2 : IntKind.u64.wrap ((2 : Int) ^ r) = ((2 ^ r : Nat) : Int) := by
    have : ((2 : Int) ^ r) = ((2 ^ r : Nat) : Int) := by simp
    rw [this]; exact u64_wrap _ h1
  rw [h2, u64_andNot_nat _ _ hx h1]; rfl
theorem sdel_split (a b k r : Nat) (hk : k < 2) (hr : r < 64) : sdel a b (64 * k + r) = (if k = 0 then andn (wd a b k) (2 ^ r) else a, if k = 0 then b else andn (wd a b k) (2 ^ r)) := by
  rcases (by omega : k = 0 ∨ k = 1) with rfl | rfl
  · simp [sdel, wd, hr]
  · have n64 : ¬ (64 + r < 64) := by omega
    simp [sdel, wd, n64]

set_option maxRecDepth 100000 in
theorem bitsWithout_any (a b : Nat) (i : Int) (ha : a < 18446744073709551616) (hb : b < 18446744073709551616) (w : World) :
    Calls Tryd.prog 11 #[.agg #[.int .u64 a, .int .u64 b], .int .i64 i] w fun e w' => e = .returned (.agg #[.int .u64 ((sdelZ a b i).1 : Nat), .int .u64 ((sdelZ a b i).2 : Nat)]) ∧ Below w.heap.size w w' := by
  obtain ⟨hb1, hg1, hg2, hs1⟩ := alloc2 w (sv2 a b) 26 (sv2 0 0) 26
  by_cases h : 0 ≤ i ∧ i < 128
  · obtain ⟨k, r, hk, hr, hi, q1, q2, q3, q4, q5⟩ := split64 i h.1 h.2
    have Hz := Lib.hid (show sdelZ a b i = _ by unfold sdelZ; rw [if_pos h, q5, sdel_split a b k r hk hr])
    have key := key_andn (wd a b k) r (wd_lt a b k ha hb) hr
    have hri := Lib.hid (right10_yes i h)
    have hset := sv2_set a b k (andn (wd a b k) (2 ^ r)) hk
    have hget := sv2_get a b k hk
    have h0 := h.1
    clear ha hb hi q5 h
    generalize andn (wd a b k) (2 ^ r) = v at *
    generalize wd a b k = u at *
    go_enter Tryd.func11, Tryd.ntmps11
    go_wp2_with fail
    change Calls _ _ _ ((w.alloc (.cells (sv2 a b) 26)).alloc (.cells (sv2 0 0) 26)) _
    generalize (w.alloc (.cells (sv2 a b) 26)).alloc (.cells (sv2 0 0) 26) = w1 at hb1 hg1 hg2 hs1 ⊢
    obtain ⟨hc, hf⟩ := cell_at hg1 k hget
    have Hb1 := Lib.hid hb1
    have Hg1 := Lib.hid hg1
    have Hg2 := Lib.hid hg2
    clear hb1 hg1 hg2 hs1 hget
    refine (hri.out w1).mono ?_
    rintro e w2 ⟨rfl, rfl⟩
    go_wp2_with fail
    have l0 := fun w' (hk : KeepsBut [] w1.drew w') => hk.cell (p := ⟨w.heap.size, k, none⟩) (v := .int .u64 u) hc (by simp)
    have qk : IntKind.i64.wrap (k : Int) = (k : Int) := IntWalk.i64_in _ (by omega)
    have qr : IntKind.i64.wrap (r : Int) = (r : Int) := IntWalk.i64_in _ (by omega)
    have qw : IntKind.i64.wrap 1 = 1 := rfl
    have hkI : (k : Int) < 2 := by omega
    refine wp_region_mix (KeepsBut []) (KeepsBut.refl []) (KeepsBut.trans []) [9] [(true, 0), (true, 1), (true, 2), (true, 3), (true, 4), (true, 5), (true, 6), (true, 7), (true, 8), (false, 9)] (by kernel_rfl) (by kernel_rfl) (fun d _ _ _ _ h => by cases d <;> exact h) ?_
    repeat (first
      | (refine mix_pure (v := ?_) rfl rfl ?_ (mix_norm (a' := ?_) ?_ ?_)
         rotate_left
         focus (intro w' hR; go_simp; first | done | (with_reducible rfl))
         rotate_left
         focus (simp only [Act.put, List.getElem_toArray, List.getElem_cons_zero, List.getElem_cons_succ, List.setIfInBounds_toArray, List.set_cons_zero, List.set_cons_succ]; rfl))
      | (refine mix_off rfl rfl (mix_norm (a' := ?_) ?_ ?_)
         rotate_left
         focus (simp only [Act.put, List.getElem_toArray, List.getElem_cons_zero, List.getElem_cons_succ, List.setIfInBounds_toArray, List.set_cons_zero, List.set_cons_succ]; rfl)))
    clear l0 qk qr qw hkI
    refine mix_eff rfl ?_
    simp only [List.getElem_toArray, List.getElem_cons_zero, List.getElem_cons_succ]
    go_wp2_with fail
    refine mixQ_last (by simp) rfl ?_
    refine mix_done ?_
    have e0 := heap_setCell_same w1 w.heap.size k _ _ (.int .u64 v) Hg1.out
    have e1 := (heap_setCell_other w1 ⟨w.heap.size, k, none⟩ (w.heap.size + 1) (.int .u64 v) (by simp)).trans Hg2.out
    rw [hset] at e0
    have Hb2 := Lib.hid (Hb1.out.setCell (p := ⟨w.heap.size, k, none⟩) (Nat.le_refl _) (.int .u64 v))
    generalize w1.setCell ⟨w.heap.size, k, none⟩ (.int .u64 v) = w3 at e0 e1 Hb2 ⊢
    obtain ⟨c0, c1, _, _⟩ := cells2 e0
    obtain ⟨c2, c3, f2, f3⟩ := cells2 e1
    generalize (if k = 0 then v else a) = p at *
    generalize (if k = 0 then b else v) = q at *
    have E := Lib.hid (set2 e1 (.int .u64 p) (.int .u64 q))
    clear e0 e1 hc hf key hset q1 q2 q3 q4 hk hr h0
    go_wp2_with fail
    try simp only [Exit.inBlock, Exit.then]
    exact bodyPost_ret (results_cell_row rfl _ _ (w.heap.size + 1) _ _ _ _ rfl E.out Tryd.underlying26 rfl (by kernel_rfl)) rfl ⟨by rw [Hz.out], (below_set2 Hb2.out (Nat.le_succ _) _ _).drew⟩
  · have hr := Lib.hid (right10_no i (by omega))
    have Hz := Lib.hid (show sdelZ a b i = (a, b) by unfold sdelZ; rw [if_neg h])
    clear ha hb h
    go_enter Tryd.func11, Tryd.ntmps11
    go_wp2_with fail
    change Calls _ _ _ ((w.alloc (.cells (sv2 a b) 26)).alloc (.cells (sv2 0 0) 26)) _
    generalize (w.alloc (.cells (sv2 a b) 26)).alloc (.cells (sv2 0 0) 26) = w1 at hb1 hg1 hg2 hs1 ⊢
    obtain ⟨c0, c1, _, _⟩ := cells2 hg1
    obtain ⟨c2, c3, f2, f3⟩ := cells2 hg2
    have E := Lib.hid (set2 hg2 (.int .u64 a) (.int .u64 b))
    have Hb1 := Lib.hid hb1
    clear hb1 hg1 hg2 hs1
    refine (hr.out w1).mono ?_
    rintro e w2 ⟨rfl, rfl⟩
    go_wp2_with fail
    try simp only [Exit.inBlock, Exit.then]
    exact bodyPost_ret (results_cell_row rfl _ _ (w.heap.size + 1) _ _ _ _ rfl E.out Tryd.underlying26 rfl (by kernel_rfl)) rfl ⟨by rw [Hz.out], below_set2 Hb1.out (Nat.le_succ _) _ _⟩
end Go.Proofs.YtiolfnnkkflaiaaDoor
