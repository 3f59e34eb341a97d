/- The reference's sums of waves. -/
import Derived.Test.YtlfclpdcingpnaaDoorBackRef
open Go.RowKit
namespace Go.Proofs.YtlfclpdcingpnaaDoor

theorem prs_size (f : Nat → Int × Int) : (prs f).size = 8 := rfl
def zeros8 : Nat → Int × Int := fun _ => (0, 0)

set_option maxHeartbeats 1000000 in
set_option maxRecDepth 100000 in
theorem sums_any (f : Nat → Int × Int) (hf : ∀ k, k < 4 → (f k).1.natAbs ≤ 1099511627776 ∧ (f k).2.natAbs ≤ 1099511627776) (w : World) :
    Calls Tryd.prog 22 #[.agg (prs f)] w fun e w' => e = .returned (.agg (prs fun j => part35 f j 4)) ∧ Below w.heap.size w w' := by
  have Hf := Lib.hid hf
  clear hf
  have hb1 := (((Below.refl w.heap.size w).alloc (Nat.le_refl _) (.cells (prs f) 54)).alloc (by rw [size_alloc]; omega) (.cells #[.int .i64 0, .int .i64 0, .int .i64 0, .int .i64 0, .int .i64 0, .int .i64 0, .int .i64 0, .int .i64 0] 54)).alloc (by rw [size_alloc, size_alloc]; omega) (.cells #[.int .i64 0, .int .i64 0, .int .i64 0, .int .i64 0, .int .i64 0, .int .i64 0, .int .i64 0, .int .i64 0] 54)
  have hs1 : (((w.alloc (.cells (prs f) 54)).alloc (.cells #[.int .i64 0, .int .i64 0, .int .i64 0, .int .i64 0, .int .i64 0, .int .i64 0, .int .i64 0, .int .i64 0] 54)).alloc (.cells #[.int .i64 0, .int .i64 0, .int .i64 0, .int .i64 0, .int .i64 0, .int .i64 0, .int .i64 0, .int .i64 0] 54)).heap.size = w.heap.size + 3 := by rw [size_alloc, size_alloc, size_alloc]
  have hg1 : (((w.alloc (.cells (prs f) 54)).alloc (.cells #[.int .i64 0, .int .i64 0, .int .i64 0, .int .i64 0, .int .i64 0, .int .i64 0, .int .i64 0, .int .i64 0] 54)).alloc (.cells #[.int .i64 0, .int .i64 0, .int .i64 0, .int .i64 0, .int .i64 0, .int .i64 0, .int .i64 0, .int .i64 0] 54)).heap[w.heap.size]? = some (.cells (prs f) 54 (0, 0)) := by
    rw [heap_alloc_old _ _ (by rw [size_alloc, size_alloc]; omega), heap_alloc_old _ _ (by rw [size_alloc]; omega)]; exact heap_alloc_new _ _
  have hg2 : (((w.alloc (.cells (prs f) 54)).alloc (.cells #[.int .i64 0, .int .i64 0, .int .i64 0, .int .i64 0, .int .i64 0, .int .i64 0, .int .i64 0, .int .i64 0] 54)).alloc (.cells #[.int .i64 0, .int .i64 0, .int .i64 0, .int .i64 0, .int .i64 0, .int .i64 0, .int .i64 0, .int .i64 0] 54)).heap[w.heap.size + 1]? = some (.cells #[.int .i64 0, .int .i64 0, .int .i64 0, .int .i64 0, .int .i64 0, .int .i64 0, .int .i64 0, .int .i64 0] 54 (0, 0)) := by
    have := heap_alloc_new (w.alloc (.cells (prs f) 54)) (.cells #[.int .i64 0, .int .i64 0, .int .i64 0, .int .i64 0, .int .i64 0, .int .i64 0, .int .i64 0, .int .i64 0] 54)
    rw [size_alloc] at this
    rw [heap_alloc_old _ _ (by rw [size_alloc, size_alloc]; omega)]; exact this
  have hg3 := heap_alloc_new ((w.alloc (.cells (prs f) 54)).alloc (.cells #[.int .i64 0, .int .i64 0, .int .i64 0, .int .i64 0, .int .i64 0, .int .i64 0, .int .i64 0, .int .i64 0] 54)) (.cells #[.int .i64 0, .int .i64 0, .int .i64 0, .int .i64 0, .int .i64 0, .int .i64 0, .int .i64 0, .int .i64 0] 54)
  rw [size_alloc, size_alloc] at hg3
  go_enter Tryd.func22, Tryd.ntmps22
  go_wp2
  generalize ((w.alloc (.cells (prs f) 54)).alloc (.cells #[.int .i64 0, .int .i64 0, .int .i64 0, .int .i64 0, .int .i64 0, .int .i64 0, .int .i64 0, .int .i64 0] 54)).alloc (.cells #[.int .i64 0, .int .i64 0, .int .i64 0, .int .i64 0, .int .i64 0, .int .i64 0, .int .i64 0, .int .i64 0] 54) = w1 at hb1 hs1 hg1 hg2 hg3 ⊢
  have Hb1 := Lib.hid hb1
  have Hs1 := Lib.hid (show w.heap.size + 3 ≤ w1.heap.size by omega)
  have Hg1 := Lib.hid hg1
  have Hg2 : Hid (w1.heap[w.heap.size + 1]? = some (.cells (prs zeros8) 54 (0, 0))) := Lib.hid hg2
  have Hg3 : Hid (w1.heap[w.heap.size + 2]? = some (.cells (prs zeros8) 54 (0, 0))) := Lib.hid hg3
  clear hb1 hs1 hg1 hg2 hg3
  go_loopw [4] (fun i wr => ∃ (j : Nat) (g : Nat → Int × Int), j ≤ 4 ∧ i = .int .i64 j ∧ Hid ((∀ i, i < j → g i = part35 f i 4) ∧ ∀ i, j ≤ i → g i = (0, 0)) ∧ Hid (wr.heap[w.heap.size]? = some (.cells (prs f) 54 (0, 0))) ∧ Hid (wr.heap[w.heap.size + 1]? = some (.cells (prs zeros8) 54 (0, 0))) ∧ Hid (wr.heap[w.heap.size + 2]? = some (.cells (prs g) 54 (0, 0))) ∧ Hid (w.heap.size + 3 ≤ wr.heap.size) ∧ Hid (Below w.heap.size w wr)) (fun i _ => 4 - (intOf i).toNat)
  case atStart => exact ⟨0, zeros8, by omega, rfl, ⟨by omega, fun _ _ => rfl⟩, Hg1, Hg2, Hg3, Hs1, Hb1⟩
  case round =>
    clear Hg1 Hg2 Hg3 Hs1 Hb1
    obtain ⟨j, g, hj, rfl, Hgo, H1, H2, H3, Hs, Hb⟩ := hrel
    by_cases hj4 : j < 4
    · go_wp2
      rw [show decide ((j : Int) < 4) = true by simp; omega]
      go_loopw [5] (fun i wr => ∃ (k : Nat) (g : Nat → Int × Int), k ≤ 4 ∧ i = .int .i64 k ∧ Hid ((∀ i, i < j → g i = part35 f i 4) ∧ g j = part35 f j k ∧ ∀ i, j < i → g i = (0, 0)) ∧ Hid (wr.heap[w.heap.size]? = some (.cells (prs f) 54 (0, 0))) ∧ Hid (wr.heap[w.heap.size + 1]? = some (.cells (prs zeros8) 54 (0, 0))) ∧ Hid (wr.heap[w.heap.size + 2]? = some (.cells (prs g) 54 (0, 0))) ∧ Hid (w.heap.size + 3 ≤ wr.heap.size) ∧ Hid (Below w.heap.size w wr)) (fun i _ => 4 - (intOf i).toNat)
      case atStart => exact ⟨0, g, by omega, rfl, ⟨Hgo.out.1, by rw [part35_zero]; exact Hgo.out.2 j (Nat.le_refl _), fun i hi => Hgo.out.2 i (by omega)⟩, H1, H2, H3, Hs, Hb⟩
      case round =>
        clear Hgo H1 H2 H3 Hs Hb
        obtain ⟨k, g, hk, rfl, Hgo, H1, H2, H3, Hs, Hb⟩ := hrel
        by_cases hk4 : k < 4
        · obtain ⟨p1, p2⟩ := prs_get g j hj4
          obtain ⟨p3, p4⟩ := prs_get f k hk4
          have c1 : wr.cell? ⟨w.heap.size + 2, j * 2, none⟩ = some (.int .i64 (g j).1) := by rw [cell_of_row _ _ _ _ _ _ H3.out]; exact p1
          have c2 : wr.cell? ⟨w.heap.size + 2, j * 2 + 1, none⟩ = some (.int .i64 (g j).2) := by rw [cell_of_row _ _ _ _ _ _ H3.out]; exact p2
          have c3 : wr.cell? ⟨w.heap.size, k * 2, none⟩ = some (.int .i64 (f k).1) := by rw [cell_of_row _ _ _ _ _ _ H1.out]; exact p3
          have c4 : wr.cell? ⟨w.heap.size, k * 2 + 1, none⟩ = some (.int .i64 (f k).2) := by rw [cell_of_row _ _ _ _ _ _ H1.out]; exact p4
          have hjk : IntKind.i64.wrap ((j : Int) * (k : Int)) = ((j * k : Nat) : Int) := by
            rw [← Int.natCast_mul]
            have : j * k ≤ 16 := Nat.mul_le_mul (show j ≤ 4 by omega) (show k ≤ 4 by omega)
            simp only [IntKind.wrap, IntKind.signed, IntKind.bits]
            generalize j * k = z at this ⊢
            simp
            omega
          go_wp2_with fail
          have q1 := fun w' (hk : KeepsBut [] wr.drew w') => hk.cell (p := ⟨w.heap.size + 2, j * 2, none⟩) (v := .int .i64 (g j).1) c1 (by simp)
          have q2 := fun w' (hk : KeepsBut [] wr.drew w') => hk.cell (p := ⟨w.heap.size + 2, j * 2 + 1, none⟩) (v := .int .i64 (g j).2) c2 (by simp)
          have q3 := fun w' (hk : KeepsBut [] wr.drew w') => hk.cell (p := ⟨w.heap.size, k * 2, none⟩) (v := .int .i64 (f k).1) c3 (by simp)
          have q4 := fun w' (hk : KeepsBut [] wr.drew w') => hk.cell (p := ⟨w.heap.size, k * 2 + 1, none⟩) (v := .int .i64 (f k).2) c4 (by simp)
          refine wp_region_mix (KeepsBut []) (KeepsBut.refl []) (KeepsBut.trans []) [14] [(true, 0), (true, 1), (true, 2), (true, 3), (true, 4), (true, 5), (true, 6), (true, 8), (true, 9), (true, 10), (false, 7), (false, 11), (false, 12), (true, 13), (false, 14)] (by kernel_rfl) (by kernel_rfl) (fun d _ _ _ _ h => by cases d <;> exact h) ?_
          repeat (first
            | (refine mix_pure (v := ?_) rfl rfl ?_ (mix_norm (a' := ?_) ?_ ?_)
               rotate_left
               focus (intro w' hR; go_simp; first | done | (with_reducible rfl))
               rotate_left
               focus (simp only [Act.put, List.getElem_toArray, List.getElem_cons_zero, List.getElem_cons_succ, List.setIfInBounds_toArray, List.set_cons_zero, List.set_cons_succ]; rfl))
            | (refine mix_off rfl rfl (mix_norm (a' := ?_) ?_ ?_)
               rotate_left
               focus (simp only [Act.put, List.getElem_toArray, List.getElem_cons_zero, List.getElem_cons_succ, List.setIfInBounds_toArray, List.set_cons_zero, List.set_cons_succ]; rfl)))
          clear q1 q2 q3 q4 c1 c2 c3 c4
          have Hjk := Lib.hid hjk
          clear hjk
          refine mix_eff rfl ?_
          simp only [List.getElem_toArray, List.getElem_cons_zero, List.getElem_cons_succ]
          go_wp2_with fail
          rw [show ((j : Int) * (k : Int)) = ((j * k : Nat) : Int) from (Int.natCast_mul j k).symm]
          refine (refTurn_any ((j * k : Nat) : Int) wr.drew).mono ?_
          rintro e w5 ⟨rfl, hb5⟩
          have R5 := Lib.hid (show Below wr.heap.size wr w5 from ((Below.refl _ _).drew).trans hb5)
          obtain ⟨t1, t2⟩ := turnZ_abs ((j * k : Nat) : Int)
          obtain ⟨f1, f2⟩ := Hf.out k hk4
          have hps := part35_succ f j k
          have hab := part35_abs f _ Hf.out j k (by omega)
          rw [← Hgo.out.2.1] at hps hab
          have m1 := unit_mul _ _ _ t1 f1
          have m2 := unit_mul _ _ _ t2 f2
          have m3 := unit_mul _ _ _ t1 f2
          have m4 := unit_mul _ _ _ t2 f1
          have hM : (1099511627776 + 1099511627776) * k ≤ 8796093022208 := by omega
          have W1 := Lib.hid (wrap64_big ((g j).1 + ((turnZ ((j * k : Nat) : Int)).1 * (f k).1 - (turnZ ((j * k : Nat) : Int)).2 * (f k).2)) (by omega))
          have W2 := Lib.hid (wrap64_big ((g j).2 + ((turnZ ((j * k : Nat) : Int)).1 * (f k).2 + (turnZ ((j * k : Nat) : Int)).2 * (f k).1)) (by omega))
          have T := Lib.hid (show (turnZ ((j * k : Nat) : Int)).1.natAbs ≤ 1 ∧ (turnZ ((j * k : Nat) : Int)).2.natAbs ≤ 1 ∧ (f k).1.natAbs ≤ 1099511627776 ∧ (f k).2.natAbs ≤ 1099511627776 from ⟨t1, t2, f1, f2⟩)
          have Hps := Lib.hid hps
          clear t1 t2 f1 f2 hps hab m1 m2 m3 m4 hM
          generalize turnZ ((j * k : Nat) : Int) = tt at W1 W2 T Hps ⊢
          go_wp2_with fail
          refine mixQ_normal (KeepsBut.of_below hb5) rfl ?_
          clear hb5
          refine mix_eff rfl ?_
          simp only [List.getElem_toArray, List.getElem_cons_zero, List.getElem_cons_succ]
          go_wp2_with fail
          refine (times_any tt.1 tt.2 (f k).1 (f k).2 T.out.1 T.out.2.1 T.out.2.2.1 T.out.2.2.2 w5).mono ?_
          rintro e w6 ⟨rfl, hb6⟩
          have R6 := Lib.hid (R5.out.trans (hb6.mono R5.out.size))
          go_wp2_with fail
          refine mixQ_normal (KeepsBut.of_below hb6) rfl ?_
          clear hb6
          refine mix_eff rfl ?_
          simp only [List.getElem_toArray, List.getElem_cons_zero, List.getElem_cons_succ]
          go_wp2_with fail
          refine (plus_any _ _ _ _ W1.out W2.out w6).mono ?_
          rintro e w7 ⟨rfl, hb7⟩
          have R7 := Lib.hid (R6.out.trans (hb7.mono R6.out.size))
          rw [show (g j).1 + (tt.1 * (f k).1 - tt.2 * (f k).2) = (part35 f j (k + 1)).1 by rw [Hps.out], show (g j).2 + (tt.1 * (f k).2 + tt.2 * (f k).1) = (part35 f j (k + 1)).2 by rw [Hps.out]]
          go_wp2_with fail
          refine mixQ_normal (KeepsBut.of_below hb7) rfl ?_
          clear hb7
          repeat (first
            | (refine mix_pure (v := ?_) rfl rfl ?_ (mix_norm (a' := ?_) ?_ ?_)
               rotate_left
               focus (intro w' hR; go_simp; first | done | (with_reducible rfl))
               rotate_left
               focus (simp only [Act.put, List.getElem_toArray, List.getElem_cons_zero, List.getElem_cons_succ, List.setIfInBounds_toArray, List.set_cons_zero, List.set_cons_succ]; rfl))
            | (refine mix_off rfl rfl (mix_norm (a' := ?_) ?_ ?_)
               rotate_left
               focus (simp only [Act.put, List.getElem_toArray, List.getElem_cons_zero, List.getElem_cons_succ, List.setIfInBounds_toArray, List.set_cons_zero, List.set_cons_succ]; rfl)))
          have hs := Hs.out
          have h3 := (R7.out.block (w.heap.size + 2) (by omega)).trans H3.out
          have h1 := (R7.out.block w.heap.size (by omega)).trans H1.out
          have h2 := (R7.out.block (w.heap.size + 1) (by omega)).trans H2.out
          obtain ⟨p1, p2⟩ := prs_get g j hj4
          have c1 : w7.cell? ⟨w.heap.size + 2, j * 2, none⟩ = some (.int .i64 (g j).1) := by rw [cell_of_row _ _ _ _ _ _ h3]; exact p1
          have c2 : w7.cell? ⟨w.heap.size + 2, j * 2 + 1, none⟩ = some (.int .i64 (g j).2) := by rw [cell_of_row _ _ _ _ _ _ h3]; exact p2
          have f1 : w7.frozen? ⟨w.heap.size + 2, j * 2, none⟩ = false := frozen_of_row _ _ _ _ _ h3
          have f2 : w7.frozen? ⟨w.heap.size + 2, j * 2 + 1, none⟩ = false := frozen_of_row _ _ _ _ _ h3
          have e1 := heap_setCell_same w7 (w.heap.size + 2) (j * 2) _ _ (.int .i64 (part35 f j (k + 1)).1) h3
          have e2 := heap_setCell_same _ (w.heap.size + 2) (j * 2 + 1) _ _ (.int .i64 (part35 f j (k + 1)).2) e1
          rw [prs_set g j hj4] at e2
          have E2 := Lib.hid e2
          have K1 := Lib.hid h1
          have K2 := Lib.hid h2
          have hb7 := Hb.out.trans (R7.out.mono (B' := w.heap.size) Hb.out.size)
          have HB := Lib.hid ((hb7.setCell (p := ⟨w.heap.size + 2, j * 2, none⟩) (by show w.heap.size ≤ w.heap.size + 2; omega) (.int .i64 (part35 f j (k + 1)).1)).setCell (p := ⟨w.heap.size + 2, j * 2 + 1, none⟩) (by show w.heap.size ≤ w.heap.size + 2; omega) (.int .i64 (part35 f j (k + 1)).2))
          have HS7 : Hid (w.heap.size + 3 ≤ ((w7.setCell ⟨w.heap.size + 2, j * 2, none⟩ (.int .i64 (part35 f j (k + 1)).1)).setCell ⟨w.heap.size + 2, j * 2 + 1, none⟩ (.int .i64 (part35 f j (k + 1)).2)).heap.size) := Lib.hid (by simp only [World.setCell, Array.size_modify]; exact Nat.le_trans hs R7.out.size)
          clear e1 e2 h1 h2 h3 p1 p2 hs hb7
          refine mix_eff rfl ?_
          simp only [List.getElem_toArray, List.getElem_cons_zero, List.getElem_cons_succ]
          go_wp2_with fail
          refine mixQ_last (by simp) rfl ?_
          refine mix_done ?_
          clear c1 c2 f1 f2
          go_wp2_with fail
          case roundEnd =>
            refine ⟨⟨k + 1, upd g j (part35 f j (k + 1)), by omega, by push_cast; rfl, Lib.hid ⟨fun i hi => ?_, ?_, fun i hi => ?_⟩, Lib.hid ?_, Lib.hid ?_, E2, HS7, HB⟩, by simp only [intOf]; omega⟩
            · rw [upd, if_neg (by omega)]; exact Hgo.out.1 i hi
            · rw [upd, if_pos rfl]
            · rw [upd, if_neg (by omega)]; exact Hgo.out.2.2 i hi
            · rw [heap_setCell_other _ _ _ _ (by simp <;> omega), heap_setCell_other _ _ _ _ (by simp <;> omega)]; exact K1.out
            · rw [heap_setCell_other _ _ _ _ (by simp <;> omega), heap_setCell_other _ _ _ _ (by simp <;> omega)]; exact K2.out
        · have hk' : k = 4 := by omega
          subst hk'
          go_wp2
          case roundEnd =>
            refine ⟨⟨j + 1, g, by omega, by push_cast; rfl, Lib.hid ⟨fun i hi => ?_, fun i hi => Hgo.out.2.2 i (by omega)⟩, H1, H2, H3, Hs, Hb⟩, by simp only [intOf]; omega⟩
            by_cases hij : i = j
            · subst hij; exact Hgo.out.2.1
            · exact Hgo.out.1 i (by omega)
    · have hj' : j = 4 := by omega
      subst hj'
      have a0 : wr.cell? ⟨w.heap.size + 2, 0, none⟩ = some (.int .i64 (g 0).1) := by rw [cell_of_row _ _ _ _ _ _ H3.out]; rfl
      have a1 : wr.cell? ⟨w.heap.size + 2, 1, none⟩ = some (.int .i64 (g 0).2) := by rw [cell_of_row _ _ _ _ _ _ H3.out]; rfl
      have a2 : wr.cell? ⟨w.heap.size + 2, 2, none⟩ = some (.int .i64 (g 1).1) := by rw [cell_of_row _ _ _ _ _ _ H3.out]; rfl
      have a3 : wr.cell? ⟨w.heap.size + 2, 3, none⟩ = some (.int .i64 (g 1).2) := by rw [cell_of_row _ _ _ _ _ _ H3.out]; rfl
      have a4 : wr.cell? ⟨w.heap.size + 2, 4, none⟩ = some (.int .i64 (g 2).1) := by rw [cell_of_row _ _ _ _ _ _ H3.out]; rfl
      have a5 : wr.cell? ⟨w.heap.size + 2, 5, none⟩ = some (.int .i64 (g 2).2) := by rw [cell_of_row _ _ _ _ _ _ H3.out]; rfl
      have a6 : wr.cell? ⟨w.heap.size + 2, 6, none⟩ = some (.int .i64 (g 3).1) := by rw [cell_of_row _ _ _ _ _ _ H3.out]; rfl
      have a7 : wr.cell? ⟨w.heap.size + 2, 7, none⟩ = some (.int .i64 (g 3).2) := by rw [cell_of_row _ _ _ _ _ _ H3.out]; rfl
      have b0 : wr.cell? ⟨w.heap.size + 1, 0, none⟩ = some (.int .i64 0) := by rw [cell_of_row _ _ _ _ _ _ H2.out]; rfl
      have b1 : wr.cell? ⟨w.heap.size + 1, 1, none⟩ = some (.int .i64 0) := by rw [cell_of_row _ _ _ _ _ _ H2.out]; rfl
      have b2 : wr.cell? ⟨w.heap.size + 1, 2, none⟩ = some (.int .i64 0) := by rw [cell_of_row _ _ _ _ _ _ H2.out]; rfl
      have b3 : wr.cell? ⟨w.heap.size + 1, 3, none⟩ = some (.int .i64 0) := by rw [cell_of_row _ _ _ _ _ _ H2.out]; rfl
      have b4 : wr.cell? ⟨w.heap.size + 1, 4, none⟩ = some (.int .i64 0) := by rw [cell_of_row _ _ _ _ _ _ H2.out]; rfl
      have b5 : wr.cell? ⟨w.heap.size + 1, 5, none⟩ = some (.int .i64 0) := by rw [cell_of_row _ _ _ _ _ _ H2.out]; rfl
      have b6 : wr.cell? ⟨w.heap.size + 1, 6, none⟩ = some (.int .i64 0) := by rw [cell_of_row _ _ _ _ _ _ H2.out]; rfl
      have b7 : wr.cell? ⟨w.heap.size + 1, 7, none⟩ = some (.int .i64 0) := by rw [cell_of_row _ _ _ _ _ _ H2.out]; rfl
      have f0 : wr.frozen? ⟨w.heap.size + 1, 0, none⟩ = false := frozen_of_row _ _ _ _ _ H2.out
      have f1 : wr.frozen? ⟨w.heap.size + 1, 1, none⟩ = false := frozen_of_row _ _ _ _ _ H2.out
      have f2 : wr.frozen? ⟨w.heap.size + 1, 2, none⟩ = false := frozen_of_row _ _ _ _ _ H2.out
      have f3 : wr.frozen? ⟨w.heap.size + 1, 3, none⟩ = false := frozen_of_row _ _ _ _ _ H2.out
      have f4 : wr.frozen? ⟨w.heap.size + 1, 4, none⟩ = false := frozen_of_row _ _ _ _ _ H2.out
      have f5 : wr.frozen? ⟨w.heap.size + 1, 5, none⟩ = false := frozen_of_row _ _ _ _ _ H2.out
      have f6 : wr.frozen? ⟨w.heap.size + 1, 6, none⟩ = false := frozen_of_row _ _ _ _ _ H2.out
      have f7 : wr.frozen? ⟨w.heap.size + 1, 7, none⟩ = false := frozen_of_row _ _ _ _ _ H2.out
      have e0 := heap_setCell_same wr (w.heap.size + 1) 0 _ _ (.int .i64 (g 0).1) H2.out
      have e1 := heap_setCell_same _ (w.heap.size + 1) 1 _ _ (.int .i64 (g 0).2) e0
      have e2 := heap_setCell_same _ (w.heap.size + 1) 2 _ _ (.int .i64 (g 1).1) e1
      have e3 := heap_setCell_same _ (w.heap.size + 1) 3 _ _ (.int .i64 (g 1).2) e2
      have e4 := heap_setCell_same _ (w.heap.size + 1) 4 _ _ (.int .i64 (g 2).1) e3
      have e5 := heap_setCell_same _ (w.heap.size + 1) 5 _ _ (.int .i64 (g 2).2) e4
      have e6 := heap_setCell_same _ (w.heap.size + 1) 6 _ _ (.int .i64 (g 3).1) e5
      have e7 := heap_setCell_same _ (w.heap.size + 1) 7 _ _ (.int .i64 (g 3).2) e6
      have E := Lib.hid e7
      clear e0 e1 e2 e3 e4 e5 e6 e7
      have hb9 (i : Nat) : w.heap.size ≤ (⟨w.heap.size + 1, i, none⟩ : Addr).block := by show w.heap.size ≤ w.heap.size + 1; omega
      have hfin := ((((((((Hb.out).setCell (p := ⟨w.heap.size + 1, 0, none⟩) (hb9 0) (.int .i64 (g 0).1)).setCell (p := ⟨w.heap.size + 1, 1, none⟩) (hb9 1) (.int .i64 (g 0).2)).setCell (p := ⟨w.heap.size + 1, 2, none⟩) (hb9 2) (.int .i64 (g 1).1)).setCell (p := ⟨w.heap.size + 1, 3, none⟩) (hb9 3) (.int .i64 (g 1).2)).setCell (p := ⟨w.heap.size + 1, 4, none⟩) (hb9 4) (.int .i64 (g 2).1)).setCell (p := ⟨w.heap.size + 1, 5, none⟩) (hb9 5) (.int .i64 (g 2).2)).setCell (p := ⟨w.heap.size + 1, 6, none⟩) (hb9 6) (.int .i64 (g 3).1)).setCell (p := ⟨w.heap.size + 1, 7, none⟩) (hb9 7) (.int .i64 (g 3).2)
      have Hfin := Lib.hid hfin
      clear hfin
      go_wp2
      try simp only [Exit.inBlock, Exit.then]
      refine bodyPost_ret (results_cell_row rfl _ _ (w.heap.size + 1) _ _ _ _ rfl E.out Tryd.underlying54 rfl (by kernel_rfl)) rfl ⟨?_, Hfin.out⟩
      have hgg (i : Nat) (hi : i < 4) : g i = part35 f i 4 := Hgo.out.1 i hi
      have : prs (fun j => part35 f j 4) = prs g := by unfold prs; simp only [hgg 0 (by omega), hgg 1 (by omega), hgg 2 (by omega), hgg 3 (by omega)]
      rw [this]; rfl
end Go.Proofs.YtlfclpdcingpnaaDoor
