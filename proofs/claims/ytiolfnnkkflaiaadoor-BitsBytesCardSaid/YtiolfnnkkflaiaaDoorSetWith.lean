/- One more number in a set, as the code has it. -/
import Derived.Test.YtiolfnnkkflaiaaDoorSetList2
import Derived.Test.YtiolfnnkkflaiaaDoorMix
open Go.RowKit
namespace Go.Proofs.YtiolfnnkkflaiaaDoor

theorem right10_yes (i : Int) (h : 0 ≤ i ∧ i < 128) (w : World) : Calls Tryd.prog 27 #[.int .i64 i] w fun e w' => e = .returned (.bool true) ∧ w = w' := by
  obtain ⟨h0, h1⟩ := h
  go_enter Tryd.func27, Tryd.ntmps27
  go_wp2
  go_ret
  refine ⟨?_, rfl⟩
  simp
theorem right10_no (i : Int) (h : i < 0 ∨ 128 ≤ i) (w : World) : Calls Tryd.prog 27 #[.int .i64 i] w fun e w' => e = .returned (.bool false) ∧ w = w' := by
  rcases h with h | h
  · go_enter Tryd.func27, Tryd.ntmps27
    go_wp2
    go_ret
    refine ⟨?_, rfl⟩
    simp
  · go_enter Tryd.func27, Tryd.ntmps27
    go_wp2
    go_ret
    refine ⟨?_, rfl⟩
    simp; omega

set_option maxRecDepth 100000 in
theorem bitsWith_any (a b i : Nat) (ha : a < 18446744073709551616) (hb : b < 18446744073709551616) (hi : i < 128) (w : World) :
    Calls Tryd.prog 9 #[.agg #[.int .u64 a, .int .u64 b], .int .i64 i] w fun e w' => e = .returned (.tuple #[.agg #[.int .u64 ((sput a b i).1 : Nat), .int .u64 ((sput a b i).2 : Nat)], .int .i64 0]) ∧ Below w.heap.size w w' := by
  have Ha := Lib.hid ha
  have Hb := Lib.hid hb
  clear ha hb
  have hb1 := ((Below.refl w.heap.size w).alloc (Nat.le_refl _) (.cells #[.int .u64 a, .int .u64 b] 26)).alloc (by rw [size_alloc]; omega) (.cells #[.int .u64 0, .int .u64 0] 26)
  have hg0 : ((w.alloc (.cells #[.int .u64 a, .int .u64 b] 26)).alloc (.cells #[.int .u64 0, .int .u64 0] 26)).heap[w.heap.size]? = some (.cells #[.int .u64 a, .int .u64 b] 26 (0, 0)) := by
    rw [heap_alloc_old _ _ (by rw [size_alloc]; omega)]; exact heap_alloc_new _ _
  have hg1 := heap_alloc_new (w.alloc (.cells #[.int .u64 a, .int .u64 b] 26)) (.cells #[.int .u64 0, .int .u64 0] 26)
  rw [size_alloc] at hg1
  go_enter Tryd.func9, Tryd.ntmps9
  go_wp2_with fail
  generalize (w.alloc (.cells #[.int .u64 a, .int .u64 b] 26)).alloc (.cells #[.int .u64 0, .int .u64 0] 26) = w1 at hb1 hg0 hg1 ⊢
  have Hb1 := Lib.hid hb1
  have Hg0 := Lib.hid hg0
  have Hg1 := Lib.hid hg1
  clear hb1 hg0 hg1
  refine (right10_yes i (by omega) _).mono ?_
  rintro e w2 ⟨rfl, rfl⟩
  have hc0 : w1.cell? ⟨w.heap.size, 0, none⟩ = some (.int .u64 a) := by rw [cell_of_row _ _ _ _ _ _ Hg0.out]; rfl
  have hc1 : w1.cell? ⟨w.heap.size, 1, none⟩ = some (.int .u64 b) := by rw [cell_of_row _ _ _ _ _ _ Hg0.out]; rfl
  have hc2 : w1.cell? ⟨w.heap.size + 1, 0, none⟩ = some (.int .u64 0) := by rw [cell_of_row _ _ _ _ _ _ Hg1.out]; rfl
  have hc3 : w1.cell? ⟨w.heap.size + 1, 1, none⟩ = some (.int .u64 0) := by rw [cell_of_row _ _ _ _ _ _ Hg1.out]; rfl
  have hf0 : w1.frozen? ⟨w.heap.size, 0, none⟩ = false := frozen_of_row _ _ _ _ _ Hg0.out
  have hf1 : w1.frozen? ⟨w.heap.size, 1, none⟩ = false := frozen_of_row _ _ _ _ _ Hg0.out
  have hf2 : w1.frozen? ⟨w.heap.size + 1, 0, none⟩ = false := frozen_of_row _ _ _ _ _ Hg1.out
  have hf3 : w1.frozen? ⟨w.heap.size + 1, 1, none⟩ = false := frozen_of_row _ _ _ _ _ Hg1.out
  by_cases h64 : i < 64
  · have q1 : i / 64 = 0 := by omega
    have q2 : (i : Int) / 64 = 0 := by omega
    have q3 : (i : Int) % 64 = i := by omega
    have qt : (i : Int).tmod 64 = i := by rw [Int.tmod_eq_emod_of_nonneg (by omega)]; omega
    have qk := key_or a i Ha.out h64
    have qw : IntKind.i64.wrap 0 = 0 := rfl
    have hsp : sput a b i = (a ||| 2 ^ i, b) := by unfold sput; rw [if_pos h64]
    have Hsp := Lib.hid hsp
    clear hsp
    go_wp2_with fail
    have l0 := fun w' (hk : KeepsBut [] w1.drew w') => hk.cell (p := ⟨w.heap.size, 0, none⟩) (v := .int .u64 a) hc0 (by simp)
    refine wp_region_mix (KeepsBut []) (KeepsBut.refl []) (KeepsBut.trans []) [9] [(true, 0), (true, 1), (true, 2), (true, 3), (true, 4), (true, 5), (true, 6), (true, 7), (true, 8), (false, 9)] (by kernel_rfl) (by kernel_rfl) (fun d _ _ _ _ h => by cases d <;> exact h) ?_
    repeat (first
      | (refine mix_pure (v := ?_) rfl rfl ?_ (mix_norm (a' := ?_) ?_ ?_)
         rotate_left
         focus (intro w' hR; go_simp; first | done | (with_reducible rfl))
         rotate_left
         focus (simp only [Act.put, List.getElem_toArray, List.getElem_cons_zero, List.getElem_cons_succ, List.setIfInBounds_toArray, List.set_cons_zero, List.set_cons_succ]; rfl))
      | (refine mix_off rfl rfl (mix_norm (a' := ?_) ?_ ?_)
         rotate_left
         focus (simp only [Act.put, List.getElem_toArray, List.getElem_cons_zero, List.getElem_cons_succ, List.setIfInBounds_toArray, List.set_cons_zero, List.set_cons_succ]; rfl)))
    clear l0
    refine mix_eff rfl ?_
    simp only [List.getElem_toArray, List.getElem_cons_zero, List.getElem_cons_succ]
    go_wp2_with fail
    refine mixQ_last (by simp) rfl ?_
    refine mix_done ?_
    have e0 := heap_setCell_same w1 w.heap.size 0 _ _ (.int .u64 (a ||| 2 ^ i : Nat)) Hg0.out
    have e1 := (heap_setCell_other w1 ⟨w.heap.size, 0, none⟩ (w.heap.size + 1) (.int .u64 (a ||| 2 ^ i : Nat)) (by simp)).trans Hg1.out
    have Hb2 := Lib.hid (Hb1.out.setCell (p := ⟨w.heap.size, 0, none⟩) (Nat.le_refl _) (.int .u64 (a ||| 2 ^ i : Nat)))
    generalize w1.setCell ⟨w.heap.size, 0, none⟩ (.int .u64 (a ||| 2 ^ i : Nat)) = w3 at e0 e1 Hb2 ⊢
    have E0 := Lib.hid e0
    have E1 := Lib.hid e1
    clear e0 e1 Hg0 Hg1 Hb1 hc0 hc1 hc2 hc3 hf0 hf1 hf2 hf3 qk q1 q2 q3 qt qw
    have hc0 : w3.cell? ⟨w.heap.size, 0, none⟩ = some (.int .u64 (a ||| 2 ^ i : Nat)) := by rw [cell_of_row _ _ _ _ _ _ E0.out]; rfl
    have hc1 : w3.cell? ⟨w.heap.size, 1, none⟩ = some (.int .u64 b) := by rw [cell_of_row _ _ _ _ _ _ E0.out]; rfl
    have hc2 : w3.cell? ⟨w.heap.size + 1, 0, none⟩ = some (.int .u64 0) := by rw [cell_of_row _ _ _ _ _ _ E1.out]; rfl
    have hc3 : w3.cell? ⟨w.heap.size + 1, 1, none⟩ = some (.int .u64 0) := by rw [cell_of_row _ _ _ _ _ _ E1.out]; rfl
    have hf2 : w3.frozen? ⟨w.heap.size + 1, 0, none⟩ = false := frozen_of_row _ _ _ _ _ E1.out
    have hf3 : w3.frozen? ⟨w.heap.size + 1, 1, none⟩ = false := frozen_of_row _ _ _ _ _ E1.out
    have e2 := heap_setCell_same w3 (w.heap.size + 1) 0 _ _ (.int .u64 (a ||| 2 ^ i : Nat)) E1.out
    have e3 := heap_setCell_same _ (w.heap.size + 1) 1 _ _ (.int .u64 b) e2
    have E3 := Lib.hid e3
    clear e2 e3 E0 E1
    go_wp2
    try simp only [Exit.inBlock, Exit.then]
    refine bodyPost_ret (results_cell_tmp_row rfl _ _ (w.heap.size + 1) _ _ _ _ rfl E3.out Tryd.underlying26 rfl (by kernel_rfl)) rfl ⟨by rw [Hsp.out]; rfl, ((Hb2.out.setCell (p := ⟨w.heap.size + 1, 0, none⟩) (by show w.heap.size ≤ w.heap.size + 1; omega) _).setCell (p := ⟨w.heap.size + 1, 1, none⟩) (by show w.heap.size ≤ w.heap.size + 1; omega) _).drew⟩
  · have q1 : i / 64 = 1 := by omega
    have q2 : (i : Int) / 64 = 1 := by omega
    have q3 : (i : Int) % 64 = ((i - 64 : Nat) : Int) := by omega
    have qt : (i : Int).tmod 64 = ((i - 64 : Nat) : Int) := by rw [Int.tmod_eq_emod_of_nonneg (by omega)]; omega
    have qk := key_or b (i - 64) Hb.out (by omega)
    have qw : IntKind.i64.wrap 1 = 1 := rfl
    have hsp : sput a b i = (a, b ||| 2 ^ (i - 64)) := by unfold sput; rw [if_neg h64]
    have Hsp := Lib.hid hsp
    clear hsp
    go_wp2_with fail
    have l0 := fun w' (hk : KeepsBut [] w1.drew w') => hk.cell (p := ⟨w.heap.size, 1, none⟩) (v := .int .u64 b) hc1 (by simp)
    refine wp_region_mix (KeepsBut []) (KeepsBut.refl []) (KeepsBut.trans []) [9] [(true, 0), (true, 1), (true, 2), (true, 3), (true, 4), (true, 5), (true, 6), (true, 7), (true, 8), (false, 9)] (by kernel_rfl) (by kernel_rfl) (fun d _ _ _ _ h => by cases d <;> exact h) ?_
    repeat (first
      | (refine mix_pure (v := ?_) rfl rfl ?_ (mix_norm (a' := ?_) ?_ ?_)
         rotate_left
         focus (intro w' hR; go_simp; first | done | (with_reducible rfl))
         rotate_left
         focus (simp only [Act.put, List.getElem_toArray, List.getElem_cons_zero, List.getElem_cons_succ, List.setIfInBounds_toArray, List.set_cons_zero, List.set_cons_succ]; rfl))
      | (refine mix_off rfl rfl (mix_norm (a' := ?_) ?_ ?_)
         rotate_left
         focus (simp only [Act.put, List.getElem_toArray, List.getElem_cons_zero, List.getElem_cons_succ, List.setIfInBounds_toArray, List.set_cons_zero, List.set_cons_succ]; rfl)))
    clear l0
    refine mix_eff rfl ?_
    simp only [List.getElem_toArray, List.getElem_cons_zero, List.getElem_cons_succ]
    go_wp2_with fail
    refine mixQ_last (by simp) rfl ?_
    refine mix_done ?_
    have e0 := heap_setCell_same w1 w.heap.size 1 _ _ (.int .u64 (b ||| 2 ^ (i - 64) : Nat)) Hg0.out
    have e1 := (heap_setCell_other w1 ⟨w.heap.size, 1, none⟩ (w.heap.size + 1) (.int .u64 (b ||| 2 ^ (i - 64) : Nat)) (by simp)).trans Hg1.out
    have Hb2 := Lib.hid (Hb1.out.setCell (p := ⟨w.heap.size, 1, none⟩) (Nat.le_refl _) (.int .u64 (b ||| 2 ^ (i - 64) : Nat)))
    generalize w1.setCell ⟨w.heap.size, 1, none⟩ (.int .u64 (b ||| 2 ^ (i - 64) : Nat)) = w3 at e0 e1 Hb2 ⊢
    have E0 := Lib.hid e0
    have E1 := Lib.hid e1
    clear e0 e1 Hg0 Hg1 Hb1 hc0 hc1 hc2 hc3 hf0 hf1 hf2 hf3 qk q1 q2 q3 qt qw
    have hc0 : w3.cell? ⟨w.heap.size, 0, none⟩ = some (.int .u64 a) := by rw [cell_of_row _ _ _ _ _ _ E0.out]; rfl
    have hc1 : w3.cell? ⟨w.heap.size, 1, none⟩ = some (.int .u64 (b ||| 2 ^ (i - 64) : Nat)) := by rw [cell_of_row _ _ _ _ _ _ E0.out]; rfl
    have hc2 : w3.cell? ⟨w.heap.size + 1, 0, none⟩ = some (.int .u64 0) := by rw [cell_of_row _ _ _ _ _ _ E1.out]; rfl
    have hc3 : w3.cell? ⟨w.heap.size + 1, 1, none⟩ = some (.int .u64 0) := by rw [cell_of_row _ _ _ _ _ _ E1.out]; rfl
    have hf2 : w3.frozen? ⟨w.heap.size + 1, 0, none⟩ = false := frozen_of_row _ _ _ _ _ E1.out
    have hf3 : w3.frozen? ⟨w.heap.size + 1, 1, none⟩ = false := frozen_of_row _ _ _ _ _ E1.out
    have e2 := heap_setCell_same w3 (w.heap.size + 1) 0 _ _ (.int .u64 a) E1.out
    have e3 := heap_setCell_same _ (w.heap.size + 1) 1 _ _ (.int .u64 (b ||| 2 ^ (i - 64) : Nat)) e2
    have E3 := Lib.hid e3
    clear e2 e3 E0 E1
    go_wp2
    try simp only [Exit.inBlock, Exit.then]
    refine bodyPost_ret (results_cell_tmp_row rfl _ _ (w.heap.size + 1) _ _ _ _ rfl E3.out Tryd.underlying26 rfl (by kernel_rfl)) rfl ⟨by rw [Hsp.out]; rfl, ((Hb2.out.setCell (p := ⟨w.heap.size + 1, 0, none⟩) (by show w.heap.size ≤ w.heap.size + 1; omega) _).setCell (p := ⟨w.heap.size + 1, 1, none⟩) (by show w.heap.size ≤ w.heap.size + 1; omega) _).drew⟩
end Go.Proofs.YtiolfnnkkflaiaaDoor
