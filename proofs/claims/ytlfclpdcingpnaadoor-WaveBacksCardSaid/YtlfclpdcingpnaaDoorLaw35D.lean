/- The walk of WaveBacks. -/
import Derived.Test.YtlfclpdcingpnaaDoorBack
open Go.RowKit
namespace Go.Proofs.YtlfclpdcingpnaaDoor
attribute [local go_sem] store_f store_c

def i4 (f : Nat → Int) : Array Value := #[.int .i64 (f 0), .int .i64 (f 1), .int .i64 (f 2), .int .i64 (f 3)]
theorem i4_get (f : Nat → Int) (j : Nat) (hj : j < 4) : (i4 f)[j]? = some (.int .i64 (f j)) := by
  rcases (by omega : j = 0 ∨ j = 1 ∨ j = 2 ∨ j = 3) with rfl | rfl | rfl | rfl <;> rfl
theorem win_abs {m : Int} {f : Nat → Int} (h : win m (f 0) (f 1) (f 2) (f 3)) (j : Nat) (hj : j < 4) : (f j).natAbs ≤ m.natAbs := by
  obtain ⟨h0, h1, h2, h3⟩ := h
  unfold okk at h0 h1 h2 h3
  rcases (by omega : j = 0 ∨ j = 1 ∨ j = 2 ∨ j = 3) with rfl | rfl | rfl | rfl <;> omega
theorem within_f (f : Nat → Int) (m : Int) (hm : wrap64 (-m) = -m) (w : World) :
    Calls Tryd.prog 20 #[.agg (i4 f), .int .i64 m] w fun e w' => e = .returned (.bool (decide (win m (f 0) (f 1) (f 2) (f 3)))) ∧ Below w.heap.size w w' := within_any _ _ _ _ m hm w

section
variable {w : World} {g : Nat} {t : TypeId} {fr : Nat × Nat}
theorem i4_cells {f : Nat → Int} (h : w.heap[g]? = some (.cells (i4 f) t fr)) : w.cell? ⟨g, 0, none⟩ = some (.int .i64 (f 0)) ∧ w.cell? ⟨g, 1, none⟩ = some (.int .i64 (f 1)) ∧ w.cell? ⟨g, 2, none⟩ = some (.int .i64 (f 2)) ∧ w.cell? ⟨g, 3, none⟩ = some (.int .i64 (f 3)) :=
  ⟨by rw [cell_of_row _ _ _ _ _ _ h]; rfl, by rw [cell_of_row _ _ _ _ _ _ h]; rfl, by rw [cell_of_row _ _ _ _ _ _ h]; rfl, by rw [cell_of_row _ _ _ _ _ _ h]; rfl⟩
theorem fls_cells {f : Nat → Nat} (h : w.heap[g]? = some (.cells (fls f) t fr)) : w.cell? ⟨g, 0, none⟩ = some (.float .f64 (f 0)) ∧ w.cell? ⟨g, 1, none⟩ = some (.float .f64 (f 1)) ∧ w.cell? ⟨g, 2, none⟩ = some (.float .f64 (f 2)) ∧ w.cell? ⟨g, 3, none⟩ = some (.float .f64 (f 3)) :=
  ⟨by rw [cell_of_row _ _ _ _ _ _ h]; rfl, by rw [cell_of_row _ _ _ _ _ _ h]; rfl, by rw [cell_of_row _ _ _ _ _ _ h]; rfl, by rw [cell_of_row _ _ _ _ _ _ h]; rfl⟩
theorem cxs_cells {u v : Nat → Nat} (h : w.heap[g]? = some (.cells (cxs u v) t fr)) : w.cell? ⟨g, 0, none⟩ = some (.complex .f64 (u 0) (v 0)) ∧ w.cell? ⟨g, 1, none⟩ = some (.complex .f64 (u 1) (v 1)) ∧ w.cell? ⟨g, 2, none⟩ = some (.complex .f64 (u 2) (v 2)) ∧ w.cell? ⟨g, 3, none⟩ = some (.complex .f64 (u 3) (v 3)) :=
  ⟨by rw [cell_of_row _ _ _ _ _ _ h]; rfl, by rw [cell_of_row _ _ _ _ _ _ h]; rfl, by rw [cell_of_row _ _ _ _ _ _ h]; rfl, by rw [cell_of_row _ _ _ _ _ _ h]; rfl⟩
theorem prs_cells {f : Nat → Int × Int} (h : w.heap[g]? = some (.cells (prs f) t fr)) : (w.cell? ⟨g, 0, none⟩ = some (.int .i64 (f 0).1) ∧ w.cell? ⟨g, 1, none⟩ = some (.int .i64 (f 0).2) ∧ w.cell? ⟨g, 2, none⟩ = some (.int .i64 (f 1).1) ∧ w.cell? ⟨g, 3, none⟩ = some (.int .i64 (f 1).2)) ∧ w.cell? ⟨g, 4, none⟩ = some (.int .i64 (f 2).1) ∧ w.cell? ⟨g, 5, none⟩ = some (.int .i64 (f 2).2) ∧ w.cell? ⟨g, 6, none⟩ = some (.int .i64 (f 3).1) ∧ w.cell? ⟨g, 7, none⟩ = some (.int .i64 (f 3).2) :=
  ⟨⟨by rw [cell_of_row _ _ _ _ _ _ h]; rfl, by rw [cell_of_row _ _ _ _ _ _ h]; rfl, by rw [cell_of_row _ _ _ _ _ _ h]; rfl, by rw [cell_of_row _ _ _ _ _ _ h]; rfl⟩, by rw [cell_of_row _ _ _ _ _ _ h]; rfl, by rw [cell_of_row _ _ _ _ _ _ h]; rfl, by rw [cell_of_row _ _ _ _ _ _ h]; rfl, by rw [cell_of_row _ _ _ _ _ _ h]; rfl⟩
end

theorem cxs_set (u v : Nat → Nat) (j : Nat) (hj : j < 4) (x y : Nat) : (cxs u v).setIfInBounds j (.complex .f64 x y) = cxs (upn u j x) (upn v j y) := by
  rcases (by omega : j = 0 ∨ j = 1 ∨ j = 2 ∨ j = 3) with rfl | rfl | rfl | rfl <;> rfl

set_option maxHeartbeats 2000000 in
set_option maxRecDepth 100000 in
theorem waveBacks_any (α β : Nat → Int) (w : World) (hT : TabAt 0 Lib.deBruijn64tab w) :
    Calls Tryd.prog 6 #[.agg (i4 α), .agg (i4 β)] w fun e w' => e = .returned (.bool true) ∧ Below w.heap.size w w' := by
  have hb1 := ((Below.refl w.heap.size w).alloc (Nat.le_refl _) (.cells (i4 α) 47)).alloc (by rw [size_alloc]; omega) (.cells (i4 β) 47)
  have hs1 : ((w.alloc (.cells (i4 α) 47)).alloc (.cells (i4 β) 47)).heap.size = w.heap.size + 2 := by rw [size_alloc, size_alloc]
  have hg1 : ((w.alloc (.cells (i4 α) 47)).alloc (.cells (i4 β) 47)).heap[w.heap.size]? = some (.cells (i4 α) 47 (0, 0)) := by
    rw [heap_alloc_old _ _ (by rw [size_alloc]; omega)]; exact heap_alloc_new _ _
  have hg2 := heap_alloc_new (w.alloc (.cells (i4 α) 47)) (.cells (i4 β) 47)
  rw [size_alloc] at hg2
  obtain ⟨a0, a1, a2, a3⟩ := i4_cells hg1
  go_enter Tryd.func6, Tryd.ntmps6
  go_wp2_with fail
  clear a0 a1 a2 a3
  generalize (w.alloc (.cells (i4 α) 47)).alloc (.cells (i4 β) 47) = w1 at hb1 hs1 hg1 hg2 ⊢
  have HT1 := Lib.hid (tab_below hT hb1 (tab_lt hT))
  have Hg1 := Lib.hid hg1
  have Hg2 := Lib.hid hg2
  have Hs1 := Lib.hid (show w.heap.size + 2 ≤ w1.heap.size by omega)
  have HB1 := Lib.hid hb1
  clear hb1 hs1 hg1 hg2 hT
  refine (within_f α 1099511627776 (wrap64_big _ (by decide)) w1).mono ?_
  rintro e w2 ⟨rfl, hb2⟩
  have HB2 := Lib.hid (show Below w1.heap.size w1 w2 from hb2)
  clear hb2
  by_cases hwa : ¬ win 1099511627776 (α 0) (α 1) (α 2) (α 3)
  · rw [decide_eq_false hwa]
    go_wp2_with fail
    refine (known35_any w2 (tab_below HT1.out HB2.out (tab_lt HT1.out))).mono ?_
    rintro e w3 ⟨rfl, hb3⟩
    go_wp2_with fail
    go_ret
    exact ⟨rfl, HB1.out.trans ((HB2.out.trans (hb3.mono (B' := w1.heap.size) HB2.out.size)).mono HB1.out.size)⟩
  have hwa := Decidable.not_not.1 hwa
  rw [decide_eq_true hwa]
  have Ha := Lib.hid (win_abs hwa)
  obtain ⟨b0, b1, b2, b3⟩ := i4_cells ((HB2.out.block _ Hs1.out).trans Hg2.out)
  clear hwa
  go_wp2_with fail
  clear b0 b1 b2 b3
  refine (within_f β 1099511627776 (wrap64_big _ (by decide)) w2).mono ?_
  rintro e w3 ⟨rfl, hb3⟩
  have HB3 := Lib.hid (HB2.out.trans (hb3.mono (B' := w1.heap.size) HB2.out.size))
  clear hb3 HB2
  by_cases hwb : ¬ win 1099511627776 (β 0) (β 1) (β 2) (β 3)
  · rw [decide_eq_false hwb]
    go_wp2_with fail
    refine (known35_any w3 (tab_below HT1.out HB3.out (tab_lt HT1.out))).mono ?_
    rintro e w4 ⟨rfl, hb4⟩
    go_wp2_with fail
    go_ret
    exact ⟨rfl, HB1.out.trans ((HB3.out.trans (hb4.mono (B' := w1.heap.size) HB3.out.size)).mono HB1.out.size)⟩
  have hwb := Decidable.not_not.1 hwb
  rw [decide_eq_true hwb]
  have Hb := Lib.hid (win_abs hwb)
  clear hwb
  go_wp2_with fail
  have hb4 := (HB3.out.alloc HB3.out.size (.cells (cxs zeroF zeroF) 39)).alloc (by rw [size_alloc]; have := HB3.out.size; omega) (.cells (prs zeros8) 54)
  have hg5 : ((w3.alloc (.cells (cxs zeroF zeroF) 39)).alloc (.cells (prs zeros8) 54)).heap[w3.heap.size]? = some (.cells (cxs zeroF zeroF) 39 (0, 0)) := by
    rw [heap_alloc_old _ _ (by rw [size_alloc]; omega)]; exact heap_alloc_new _ _
  have hg6 := heap_alloc_new (w3.alloc (.cells (cxs zeroF zeroF) 39)) (.cells (prs zeros8) 54)
  rw [size_alloc] at hg6
  have hs4 : ((w3.alloc (.cells (cxs zeroF zeroF) 39)).alloc (.cells (prs zeros8) 54)).heap.size = w3.heap.size + 2 := by rw [size_alloc, size_alloc]
  change Code.wp _ _ _ _ ((w3.alloc (.cells (cxs zeroF zeroF) 39)).alloc (.cells (prs zeros8) 54))
  generalize (w3.alloc (.cells (cxs zeroF zeroF) 39)).alloc (.cells (prs zeros8) 54) = w4 at hb4 hg5 hg6 hs4 ⊢
  have Hs4 := Lib.hid (show w3.heap.size + 2 ≤ w4.heap.size by omega)
  have Hl3 := Lib.hid (show w1.heap.size ≤ w3.heap.size from HB3.out.size)
  clear hs4
  generalize w3.heap.size = g5 at hg5 hg6 Hs4 Hl3 ⊢
  have Hg5 := Lib.hid hg5
  have Hg6 := Lib.hid hg6
  have HB4 := Lib.hid hb4
  clear hg5 hg6 hb4 HB3 w2 w3
  go_loopw [7] (fun i wr => ∃ (k : Nat) (u v : Nat → Nat) (f : Nat → Int × Int), k ≤ 4 ∧ i = .int .i64 k ∧ Hid (∀ i, i < k → f i = (α i, β i) ∧ IsI (u i) (α i) ∧ IsI (v i) (β i)) ∧ Hid (wr.heap[g5]? = some (.cells (cxs u v) 39 (0, 0))) ∧ Hid (wr.heap[g5 + 1]? = some (.cells (prs f) 54 (0, 0))) ∧ Hid (g5 + 2 ≤ wr.heap.size) ∧ Hid (Below w1.heap.size w1 wr)) (fun i _ => 4 - (intOf i).toNat)
  case atStart => exact ⟨0, zeroF, zeroF, zeros8, by omega, rfl, by intro i hi; omega, Hg5, Hg6, Hs4, HB4⟩
  case round =>
    clear Hg5 Hg6 Hs4 HB4
    obtain ⟨k, u, v, f, hk, rfl, Hf, H5, H6, Hs, HB⟩ := hrel
    have A1 := (HB.out.block _ (by have := Hs1.out; omega)).trans Hg1.out
    have B1 := (HB.out.block _ (by have := Hs1.out; omega)).trans Hg2.out
    by_cases hk4 : k < 4
    · have ca : wr.cell? ⟨w.heap.size, k, none⟩ = some (.int .i64 (α k)) := by rw [cell_of_row _ _ _ _ _ _ A1]; exact i4_get _ _ hk4
      have cb : wr.cell? ⟨w.heap.size + 1, k, none⟩ = some (.int .i64 (β k)) := by rw [cell_of_row _ _ _ _ _ _ B1]; exact i4_get _ _ hk4
      obtain ⟨p1, p2⟩ := prs_get f k hk4
      have c1 : wr.cell? ⟨g5 + 1, k * 2, none⟩ = some (.int .i64 (f k).1) := by rw [cell_of_row _ _ _ _ _ _ H6.out]; exact p1
      have c2 : wr.cell? ⟨g5 + 1, k * 2 + 1, none⟩ = some (.int .i64 (f k).2) := by rw [cell_of_row _ _ _ _ _ _ H6.out]; exact p2
      have f1 : wr.frozen? ⟨g5 + 1, k * 2, none⟩ = false := frozen_of_row _ _ _ _ _ H6.out
      have f2 : wr.frozen? ⟨g5 + 1, k * 2 + 1, none⟩ = false := frozen_of_row _ _ _ _ _ H6.out
      clear A1 B1 p1 p2
      go_wp2_with fail
      have q1 := fun w' (hk : KeepsBut [] wr.drew w') => hk.cell (p := ⟨w.heap.size, k, none⟩) (v := .int .i64 (α k)) ca (by simp)
      have q2 := fun w' (hk : KeepsBut [] wr.drew w') => hk.cell (p := ⟨w.heap.size + 1, k, none⟩) (v := .int .i64 (β k)) cb (by simp)
      refine wp_region_mix (KeepsBut []) (KeepsBut.refl []) (KeepsBut.trans []) [9] [(true, 0), (true, 1), (true, 2), (true, 3), (true, 4), (true, 5), (true, 6), (true, 7), (true, 8), (false, 9)] (by kernel_rfl) (by kernel_rfl) (fun d _ _ _ _ h => by cases d <;> exact h) ?_
      repeat (first
        | (refine mix_pure (v := ?_) rfl rfl ?_ (mix_norm (a' := ?_) ?_ ?_)
           rotate_left
           focus (intro w' hR; go_simp; first | done | (with_reducible rfl))
           rotate_left
           focus (simp only [Act.put, List.getElem_toArray, List.getElem_cons_zero, List.getElem_cons_succ, List.setIfInBounds_toArray, List.set_cons_zero, List.set_cons_succ]; rfl))
        | (refine mix_off rfl rfl (mix_norm (a' := ?_) ?_ ?_)
           rotate_left
           focus (simp only [Act.put, List.getElem_toArray, List.getElem_cons_zero, List.getElem_cons_succ, List.setIfInBounds_toArray, List.set_cons_zero, List.set_cons_succ]; rfl)))
      clear q1 q2
      refine mix_eff rfl ?_
      simp only [List.getElem_toArray, List.getElem_cons_zero, List.getElem_cons_succ]
      go_wp2_with fail
      refine mixQ_last (by simp) rfl ?_
      refine mix_done ?_
      have e1 := heap_setCell_same wr (g5 + 1) (k * 2) _ _ (.int .i64 (α k)) H6.out
      have e2 := heap_setCell_same _ (g5 + 1) (k * 2 + 1) _ _ (.int .i64 (β k)) e1
      rw [prs_set f k hk4 (α k, β k)] at e2
      have e5 : ((wr.setCell ⟨g5 + 1, k * 2, none⟩ (.int .i64 (α k))).setCell ⟨g5 + 1, k * 2 + 1, none⟩ (.int .i64 (β k))).heap[g5]? = some (.cells (cxs u v) 39 (0, 0)) := by
        rw [heap_setCell_other _ _ _ _ (by simp <;> omega), heap_setCell_other _ _ _ _ (by simp <;> omega)]; exact H5.out
      have hb5 := (HB.out.setCell (p := ⟨g5 + 1, k * 2, none⟩) (show w1.heap.size ≤ g5 + 1 from Nat.le_succ_of_le Hl3.out) (.int .i64 (α k))).setCell (p := ⟨g5 + 1, k * 2 + 1, none⟩) (show w1.heap.size ≤ g5 + 1 from Nat.le_succ_of_le Hl3.out) (.int .i64 (β k))
      have hs5 : g5 + 2 ≤ ((wr.setCell ⟨g5 + 1, k * 2, none⟩ (.int .i64 (α k))).setCell ⟨g5 + 1, k * 2 + 1, none⟩ (.int .i64 (β k))).heap.size := by simp only [World.setCell, Array.size_modify]; exact Hs.out
      clear e1 ca cb c1 c2 f1 f2
      generalize (wr.setCell ⟨g5 + 1, k * 2, none⟩ (.int .i64 (α k))).setCell ⟨g5 + 1, k * 2 + 1, none⟩ (.int .i64 (β k)) = w5 at e2 e5 hb5 hs5 ⊢
      have E2 := Lib.hid e2
      have E5 := Lib.hid e5
      have HB5 := Lib.hid hb5
      have Hs5 := Lib.hid hs5
      clear hb5 hs5 HB
      obtain ⟨p1, p2⟩ := prs_get (upd f k (α k, β k)) k hk4
      have c1 : w5.cell? ⟨g5 + 1, k * 2, none⟩ = some (.int .i64 (α k)) := by rw [cell_of_row _ _ _ _ _ _ e2, p1]; simp [upd]
      have c2 : w5.cell? ⟨g5 + 1, k * 2 + 1, none⟩ = some (.int .i64 (β k)) := by rw [cell_of_row _ _ _ _ _ _ e2, p2]; simp [upd]
      clear e2 e5 p1 p2
      go_wp2_with fail
      clear c1 c2
      refine (number_any (α k) (β k) (by have := Ha.out k hk4; omega) (by have := Hb.out k hk4; omega) _).mono ?_
      rintro e w6 ⟨x, y, rfl, hx, hy, hb6⟩
      have hb6 : Below w5.heap.size w5 w6 := ((Below.refl _ _).drew).trans hb6
      have hs5 := Hs5.out
      have HB6 := Lib.hid (HB5.out.trans (hb6.mono (B' := w1.heap.size) HB5.out.size))
      have e5 := (hb6.block g5 (by omega)).trans E5.out
      have E6 := Lib.hid ((hb6.block (g5 + 1) (by omega)).trans E2.out)
      have Hs6 := Lib.hid (Nat.le_trans hs5 hb6.size)
      have Hxy := Lib.hid (show IsI x (α k) ∧ IsI y (β k) from ⟨hx, hy⟩)
      have cx : w6.cell? ⟨g5, k, none⟩ = some (.complex .f64 (u k) (v k)) := by rw [cell_of_row _ _ _ _ _ _ e5]; exact cxs_get u v k hk4
      have fx : w6.frozen? ⟨g5, k, none⟩ = false := frozen_of_row _ _ _ _ _ e5
      have e7 := heap_setCell_same w6 g5 k _ _ (.complex .f64 x y) e5
      rw [cxs_set u v k hk4] at e7
      have E7 := Lib.hid e7
      clear hb6 hx hy hs5 e5 e7 HB5 Hs5 E5 E2
      go_wp2_with fail
      case roundEnd =>
        refine ⟨⟨k + 1, upn u k x, upn v k y, upd f k (α k, β k), by omega, by push_cast; rfl, Lib.hid fun i hi => ?_, E7, Lib.hid ?_, Lib.hid ?_, Lib.hid (HB6.out.setCell (p := ⟨g5, k, none⟩) Hl3.out _)⟩, by simp only [intOf]; omega⟩
        · by_cases hik : i = k
          · subst hik; simp only [upn, upd, if_pos]; exact ⟨trivial, Hxy.out⟩
          · simp only [upn, upd, if_neg hik]; exact Hf.out i (by omega)
        · rw [heap_setCell_other _ _ _ _ (by simp <;> omega)]; exact E6.out
        · simp only [World.setCell, Array.size_modify]; exact Hs6.out
    · obtain rfl : k = 4 := by omega
      obtain ⟨⟨c0, c1, c2, c3⟩, c4, c5, c6, c7⟩ := prs_cells H6.out
      go_wp2_with fail
      clear c0 c1 c2 c3 c4 c5 c6 c7
      have hsum : ∀ k, k < 4 → (f k).1.natAbs ≤ 1099511627776 ∧ (f k).2.natAbs ≤ 1099511627776 := fun k hk => by
        rw [(Hf.out k hk).1]; exact ⟨by have := Ha.out k hk; omega, by have := Hb.out k hk; omega⟩
      have Hsum := Lib.hid hsum
      refine (sums_any f hsum wr).mono ?_
      rintro e w6 ⟨he, hb6⟩
      simp only [prs] at he
      subst he
      have hs := Hs.out
      have e5 := (hb6.block g5 (by omega)).trans H5.out
      have hsz : w6.heap.size ≥ g5 + 2 := Nat.le_trans hs hb6.size
      have d := cxs_cells ((heap_alloc_old w6 (.cells (prs fun j => part35 f j 4) 54) (by omega)).trans e5)
      have hg8 := heap_alloc_new w6 (.cells (prs fun j => part35 f j 4) 54)
      have hs7 := size_alloc w6 (.cells (prs fun j => part35 f j 4) 54)
      have HB7 := Lib.hid ((HB.out.trans (hb6.mono (B' := w1.heap.size) HB.out.size)).alloc (by have := HB.out.size; have := hb6.size; omega) (.cells (prs fun j => part35 f j 4) 54))
      have H57 := Lib.hid ((heap_alloc_old w6 (.cells (prs fun j => part35 f j 4) 54) (by omega)).trans e5)
      have Hl6 := Lib.hid (show g5 + 2 ≤ w6.heap.size by omega)
      clear hsum hs e5 hsz hb6 H6 Hs HB A1 B1
      simp only [prs] at d
      obtain ⟨d0, d1, d2, d3⟩ := d
      go_wp2_with fail
      clear d0 d1 d2 d3
      change Calls _ _ _ (w6.alloc (.cells (prs fun j => part35 f j 4) 54)) _
      have Hl7 := Lib.hid (show w6.heap.size + 1 ≤ (w6.alloc (.cells (prs fun j => part35 f j 4) 54)).heap.size by omega)
      generalize w6.alloc (.cells (prs fun j => part35 f j 4) 54) = w7 at hg8 HB7 H57 Hl7 ⊢
      clear hs7
      generalize w6.heap.size = g8 at hg8 Hl6 Hl7 ⊢
      have H87 := Lib.hid hg8
      clear hg8
      refine (back_any u v f (fun k hk => by obtain ⟨h1, h2, h3⟩ := Hf.out k hk; rw [h1]; exact ⟨h2, h3⟩) Hsum.out w7).mono ?_
      rintro e w8 ⟨x, he, hx, hb8⟩
      simp only [fls] at he
      subst he
      have Hx := Lib.hid hx
      have hg9 := heap_alloc_new w8 (.cells (fls x) 37)
      have HB9 := Lib.hid ((HB7.out.trans (hb8.mono (B' := w1.heap.size) HB7.out.size)).alloc (by have := HB7.out.size; have := hb8.size; omega) (.cells (fls x) 37))
      have H59 := Lib.hid ((heap_alloc_old w8 (.cells (fls x) 37) (by have := Hl6.out; have := Hl7.out; have := hb8.size; omega)).trans ((hb8.block g5 (by have := Hl6.out; have := Hl7.out; omega)).trans H57.out))
      have H89 := Lib.hid ((heap_alloc_old w8 (.cells (fls x) 37) (by have := Hl7.out; have := hb8.size; omega)).trans ((hb8.block g8 (by have := Hl7.out; omega)).trans H87.out))
      have Hl9 := Lib.hid (show w8.heap.size + 1 ≤ (w8.alloc (.cells (fls x) 37)).heap.size by rw [size_alloc]; omega)
      have Hl8 := Lib.hid (show g8 + 1 ≤ w8.heap.size from Nat.le_trans Hl7.out hb8.size)
      clear hx hb8 H87 H57 HB7 Hl7
      go_wp2_with fail
      change Code.wp _ _ _ _ (w8.alloc (.cells (fls x) 37))
      generalize w8.alloc (.cells (fls x) 37) = w9 at hg9 HB9 H59 H89 Hl9 ⊢
      generalize w8.heap.size = g9 at hg9 Hl8 Hl9 ⊢
      have H99 := Lib.hid hg9
      clear hg9
      go_loopw [10] (fun i wr => ∃ k : Nat, k ≤ 4 ∧ i = .int .i64 k ∧ Hid (Below w9.heap.size w9 wr)) (fun i _ => 4 - (intOf i).toNat)
      case atStart => exact ⟨0, by omega, rfl, Below.refl _ _⟩
      case round =>
        obtain ⟨k, hk, rfl, HB⟩ := hrel
        by_cases hk4 : k < 4
        · obtain ⟨y, hy, hq⟩ := Hx.out k hk4
          obtain ⟨p1, p2⟩ := prs_get (fun j => part35 f j 4) k hk4
          have hl8 := Hl8.out
          have hl9 := Hl9.out
          have cx : w9.cell? ⟨g9, k, none⟩ = some (.float .f64 (x k)) := by rw [cell_of_row _ _ _ _ _ _ H99.out]; exact fls_get x k hk4
          have cs : w9.cell? ⟨g8, k * 2, none⟩ = some (.int .i64 (part35 f k 4).1) := by rw [cell_of_row _ _ _ _ _ _ H89.out]; exact p1
          have cx := (HB.out.cell (p := ⟨g9, k, none⟩) (show g9 < w9.heap.size by omega)).trans cx
          have cs := (HB.out.cell (p := ⟨g8, k * 2, none⟩) (show g8 < w9.heap.size by omega)).trans cs
          have hab := (part35_abs f _ Hsum.out k 4 (by omega)).1
          have iz := IsI.ofInt (part35 f k 4).1 (by omega)
          obtain ⟨p, q, hp, hq2, hpq⟩ := quo_same hy iz
          obtain rfl : p = x k := Option.some.inj (hp.symm.trans hq)
          simp only [four64] at hq2
          have hq3 := fun W : World => run_float_arith (P := Tryd.prog) W .quo 36 .f64 _ _ q hq2
          clear hp hq hy iz p1 p2 hab hq2 hl8 hl9
          go_wp2_with fail
          go_quiet (fail)
          clear hq3 cx cs hpq
          go_wp2_with fail
          case roundEnd =>
            exact ⟨⟨k + 1, by omega, by push_cast; rfl, Lib.hid (HB.out.trans ⟨rfl, rfl, rfl, Nat.le_refl _, fun _ _ => rfl⟩)⟩, by simp only [intOf]; omega⟩
        · obtain rfl : k = 4 := by omega
          have HR := Lib.hid (HB9.out.trans (HB.out.mono (B' := w1.heap.size) HB9.out.size))
          obtain ⟨a0, a1, a2, a3⟩ := i4_cells ((HR.out.block _ (by have := Hs1.out; omega)).trans Hg1.out)
          go_wp2_with fail
          clear a0 a1 a2 a3
          refine (within_f α 1048576 (wrap64_big _ (by decide)) wr).mono ?_
          rintro e w10 ⟨rfl, hb10⟩
          have HR10 := Lib.hid (HR.out.trans (hb10.mono (B' := w1.heap.size) HR.out.size))
          have HB10 := Lib.hid (HB.out.trans (hb10.mono (B' := w9.heap.size) HB.out.size))
          clear hb10 HR
          by_cases hwa : ¬ win 1048576 (α 0) (α 1) (α 2) (α 3)
          · rw [decide_eq_false hwa]
            go_wp2_with fail
            refine (known35_any w10 (tab_below HT1.out HR10.out (tab_lt HT1.out))).mono ?_
            rintro e w11 ⟨rfl, hb11⟩
            go_wp2_with fail
            go_ret
            exact ⟨rfl, HB1.out.trans ((HR10.out.trans (hb11.mono (B' := w1.heap.size) HR10.out.size)).mono HB1.out.size)⟩
          have hwa := Decidable.not_not.1 hwa
          rw [decide_eq_true hwa]
          have Ha2 := Lib.hid (win_abs hwa)
          obtain ⟨b0, b1, b2, b3⟩ := i4_cells ((HR10.out.block _ (by have := Hs1.out; omega)).trans Hg2.out)
          clear hwa
          go_wp2_with fail
          clear b0 b1 b2 b3
          refine (within_f β 1048576 (wrap64_big _ (by decide)) w10).mono ?_
          rintro e w11 ⟨rfl, hb11⟩
          have HR11 := Lib.hid (HR10.out.trans (hb11.mono (B' := w1.heap.size) HR10.out.size))
          have HB11 := Lib.hid (HB10.out.trans (hb11.mono (B' := w9.heap.size) HB10.out.size))
          clear hb11 HR10 HB10
          by_cases hwb : ¬ win 1048576 (β 0) (β 1) (β 2) (β 3)
          · rw [decide_eq_false hwb]
            go_wp2_with fail
            refine (known35_any w11 (tab_below HT1.out HR11.out (tab_lt HT1.out))).mono ?_
            rintro e w12 ⟨rfl, hb12⟩
            go_wp2_with fail
            go_ret
            exact ⟨rfl, HB1.out.trans ((HR11.out.trans (hb12.mono (B' := w1.heap.size) HR11.out.size)).mono HB1.out.size)⟩
          have hwb := Decidable.not_not.1 hwb
          rw [decide_eq_true hwb]
          have Hb2 := Lib.hid (win_abs hwb)
          clear hwb
          obtain ⟨d0, d1, d2, d3⟩ := cxs_cells ((HB11.out.block g5 (by have := Hl9.out; have := Hl8.out; have := Hl6.out; omega)).trans H59.out)
          go_wp2_with fail
          clear d0 d1 d2 d3
          have FA (k : Nat) (hk : k < 4) : IsI (u k) (α k) ∧ IsI (v k) (β k) := (Hf.out k hk).2
          have FB (k : Nat) (hk : k < 4) : (α k).natAbs ≤ 4194304 ∧ (β k).natAbs ≤ 4194304 := ⟨by have := Ha2.out k hk; omega, by have := Hb2.out k hk; omega⟩
          refine (power_any _ _ _ _ _ _ _ _ _ _ _ _ _ _ _ _ (FA 0 (by omega)) (FA 1 (by omega)) (FA 2 (by omega)) (FA 3 (by omega)) (FB 0 (by omega)) (FB 1 (by omega)) (FB 2 (by omega)) (FB 3 (by omega)) w11).mono ?_
          rintro e w12 ⟨p0, p1, p2, p3, rfl, ⟨hp0, hp1, hp2, hp3⟩, hb12⟩
          clear FA FB
          have Hp : Hid (∀ k, k < 4 → IsI ([p0, p1, p2, p3].getD k 0) (α k * α k + β k * β k)) := Lib.hid fun k hk => by
            rcases (by omega : k = 0 ∨ k = 1 ∨ k = 2 ∨ k = 3) with rfl | rfl | rfl | rfl <;> assumption
          have hg12 := heap_alloc_new w12 (.cells (fls fun k => [p0, p1, p2, p3].getD k 0) 37)
          have HR12 := Lib.hid ((HR11.out.trans (hb12.mono (B' := w1.heap.size) HR11.out.size)).alloc (by have := HR11.out.size; have := hb12.size; omega) (.cells (fls fun k => [p0, p1, p2, p3].getD k 0) 37))
          have Hl12 := Lib.hid (show w12.heap.size + 1 ≤ (w12.alloc (.cells (fls fun k => [p0, p1, p2, p3].getD k 0) 37)).heap.size by rw [size_alloc]; omega)
          clear hp0 hp1 hp2 hp3 hb12 HB11 HR11 HB
          go_wp2_with fail
          change Code.wp _ _ _ _ (w12.alloc (.cells (fls fun k => [p0, p1, p2, p3].getD k 0) 37))
          generalize w12.alloc (.cells (fls fun k => [p0, p1, p2, p3].getD k 0) 37) = w13 at hg12 HR12 Hl12 ⊢
          generalize w12.heap.size = g12 at hg12 Hl12 ⊢
          have H12 := Lib.hid hg12
          clear hg12
          go_loopw [12] (fun i wr => ∃ k : Nat, k ≤ 4 ∧ i = .int .i64 k ∧ Hid (Below w13.heap.size w13 wr)) (fun i _ => 4 - (intOf i).toNat)
          case atStart => exact ⟨0, by omega, rfl, Below.refl _ _⟩
          case round =>
            obtain ⟨k, hk, rfl, HB⟩ := hrel
            have HRr := Lib.hid (HR12.out.trans (HB.out.mono (B' := w1.heap.size) HR12.out.size))
            by_cases hk4 : k < 4
            · have ca : wr.cell? ⟨w.heap.size, k, none⟩ = some (.int .i64 (α k)) := by rw [cell_of_row _ _ _ _ _ _ ((HRr.out.block _ (by have := Hs1.out; omega)).trans Hg1.out)]; exact i4_get _ _ hk4
              have cb : wr.cell? ⟨w.heap.size + 1, k, none⟩ = some (.int .i64 (β k)) := by rw [cell_of_row _ _ _ _ _ _ ((HRr.out.block _ (by have := Hs1.out; omega)).trans Hg2.out)]; exact i4_get _ _ hk4
              have cx : wr.cell? ⟨g12, k, none⟩ = some (.float .f64 ([p0, p1, p2, p3].getD k 0)) := by rw [cell_of_row _ _ _ _ _ _ ((HB.out.block g12 (by have := Hl12.out; omega)).trans H12.out)]; exact fls_get _ k hk4
              have ha := Ha2.out k hk4
              have hb := Hb2.out k hk4
              have sa := sq_abs (α k) (by omega)
              have sb := sq_abs (β k) (by omega)
              have iz := IsI.ofInt (α k * α k + β k * β k) (by omega)
              have fe : FloatKind.f64.format.order ([p0, p1, p2, p3].getD k 0) (floatOfInt .f64 (α k * α k + β k * β k)) = some Ordering.eq := by
                have h := (Hp.out k hk4).eq iz
                rw [decide_eq_true rfl] at h
                exact eq_of_beq h
              have wa := wrap64_big (α k * α k) (by omega)
              have wb := wrap64_big (β k * β k) (by omega)
              have wc := wrap64_big (α k * α k + β k * β k) (by omega)
              generalize [p0, p1, p2, p3].getD k 0 = px at cx fe
              clear ha hb sa sb iz
              go_wp2_with fail
              go_quiet (fail)
              clear ca cb cx fe wa wb wc
              go_wp2_with fail
              case roundEnd =>
                exact ⟨⟨k + 1, by omega, by push_cast; rfl, Lib.hid (HB.out.trans ⟨rfl, rfl, rfl, Nat.le_refl _, fun _ _ => rfl⟩)⟩, by simp only [intOf]; omega⟩
            · obtain rfl : k = 4 := by omega
              go_wp2_with fail
              refine (known35_any wr (tab_below HT1.out HRr.out (tab_lt HT1.out))).mono ?_
              rintro e w14 ⟨rfl, hb14⟩
              go_wp2_with fail
              go_ret
              exact ⟨rfl, HB1.out.trans ((HRr.out.trans (hb14.mono (B' := w1.heap.size) HRr.out.size)).mono HB1.out.size)⟩
end Go.Proofs.YtlfclpdcingpnaaDoor
