/- Nets: one of them; all are lost; one is cut. -/
import Derived.Test.YtiolfnnkkflaiaaNet1
open Go.RowKit
namespace Go.Proofs.Ytiolfnnkkflaiaa

theorem PRow.cell {w : World} {b c : Nat} {ps : List (Int × ByteArray)} (h : PRow w (some ⟨b, 0, none⟩) c ps) (k : Nat) (hk : k < ps.length) :
    w.cell? ⟨b, k * 2, none⟩ = some (.int .i64 ps[k].1) ∧ w.cell? ⟨b, k * 2 + 1, none⟩ = some (.string ps[k].2) ∧ w.frozen? ⟨b, k * 2, none⟩ = false ∧ w.frozen? ⟨b, k * 2 + 1, none⟩ = false := by
  refine ⟨?_, ?_, World.ownsRow.frozenAt h _, World.ownsRow.frozenAt h _⟩
  · rw [World.ownsRow.cellAt h (k * 2) (by omega)]; exact pks_get0 ps k hk
  · rw [World.ownsRow.cellAt h (k * 2 + 1) (by omega)]; exact pks_get1 ps k hk
theorem pAt_in {σ : Nt} {k : Nat} (hk : k < σ.ps.length) : pAt σ (k : Int) = σ.ps[k] := by
  unfold pAt; rw [if_pos (show inN σ k by unfold inN; omega), Int.toNat_natCast, List.getD_eq_getElem?_getD, List.getElem?_eq_getElem hk]; rfl
theorem pAt_out {σ : Nt} {i : Int} (h : ¬ inN σ i) : pAt σ i = (0, ⟨#[]⟩) := by unfold pAt; rw [if_neg h]
theorem inN_nat {σ : Nt} {i : Int} (h : inN σ i) : ∃ k : Nat, k < σ.ps.length ∧ i = (k : Int) := ⟨i.toNat, by unfold inN at h; omega, by unfold inN at h; omega⟩

set_option maxRecDepth 100000 in
theorem netAt_any (w : World) (g : Nat) (A : Option Addr) (c : Nat) (σ : Nt) (h : NetP w g A c σ) (i : Int) :
    Calls Try.prog 44 #[.pointer (some ⟨g, 0, none⟩), .int .i64 i] w fun e w' => e = .returned (.tuple #[.agg #[.int .i64 (pAt σ i).1, .string (pAt σ i).2], .int .i64 (hasE σ i : Nat)]) ∧ Below w.heap.size w w' := by
  obtain ⟨hb1, hg1, hs1⟩ := alloc1 w #[.int .i64 0, .string ⟨#[]⟩] 70
  have hN := h.chg (F := fun _ => False) (.of_below hb1) (fun _ _ f => f)
  have HH := Lib.hid (netHas_any _ g A c σ hN i)
  by_cases hin : inN σ i
  · obtain ⟨k, hk, rfl⟩ := inN_nat hin
    obtain ⟨b, rfl, hbl⟩ := h.2.1.form (by omega)
    obtain ⟨d0, d1, _, _⟩ := hN.2.1.cell k hk
    obtain ⟨⟨_, _, _, c3⟩, _⟩ := hN.cells
    rw [hasE_in hin] at HH ⊢
    rw [pAt_in hk]
    generalize σ.ps[k] = p at *
    obtain ⟨q0, q1, q2, q3⟩ := cells2 hg1
    have E := Lib.hid (set2 hg1 (.int .i64 p.1) (.string p.2))
    have Hb := Lib.hid (below_set2 hb1 (g := w.heap.size) (Nat.le_refl _) (.int .i64 p.1) (.string p.2))
    clear h hN hin hb1 hg1 hs1
    go_enter Try.func44, Try.ntmps44
    go_wp2_with fail
    generalize w.alloc (.cells #[.int .i64 0, .string ⟨#[]⟩] 70) = w1 at *
    refine (HH.out).mono ?_
    rintro e w2 ⟨rfl, rfl⟩
    go_wp2_with fail
    try simp only [Exit.inBlock, Exit.then]
    exact bodyPost_ret (results_cell_tmp_row rfl _ _ w.heap.size _ _ _ _ rfl E.out Try.underlying70 rfl (by kernel_rfl)) rfl ⟨rfl, Hb.out⟩
  · rw [hasE_out hin] at HH ⊢
    rw [pAt_out hin]
    have E := Lib.hid hg1
    have Hb := Lib.hid hb1
    clear h hN hin hs1 hb1 hg1
    go_enter Try.func44, Try.ntmps44
    go_wp2_with fail
    refine (HH.out).mono ?_
    rintro e w2 ⟨rfl, rfl⟩
    rw [show ((3 : Nat) : Int) = 3 from rfl]
    go_wp2_with fail
    try simp only [Exit.inBlock, Exit.then]
    exact bodyPost_ret (results_cell_tmp_row rfl _ _ w.heap.size _ _ _ _ rfl E.out Try.underlying70 rfl (by kernel_rfl)) rfl ⟨rfl, Hb.out⟩
theorem netAt_nil (w : World) (i : Int) :
    Calls Try.prog 44 #[.pointer none, .int .i64 i] w fun e w' => e = .returned (.tuple #[.agg #[.int .i64 0, .string ⟨#[]⟩], .int .i64 1]) ∧ Below w.heap.size w w' := by
  obtain ⟨hb1, hg1, hs1⟩ := alloc1 w #[.int .i64 0, .string ⟨#[]⟩] 70
  have E := Lib.hid hg1
  have Hb := Lib.hid hb1
  clear hs1 hb1 hg1
  go_enter Try.func44, Try.ntmps44
  go_wp2_with fail
  refine (netHas_nil _ i).mono ?_
  rintro e w2 ⟨rfl, rfl⟩
  go_wp2_with fail
  try simp only [Exit.inBlock, Exit.then]
  exact bodyPost_ret (results_cell_tmp_row rfl _ _ w.heap.size _ _ _ _ rfl E.out Try.underlying70 rfl (by kernel_rfl)) rfl ⟨rfl, Hb.out⟩

set_option maxRecDepth 100000 in
theorem netDrop_any (w : World) (g : Nat) (A : Option Addr) (c : Nat) (σ : Nt) (hok : σ.ok) (h : NetP w g A c σ) :
    Calls Try.prog 43 #[.pointer (some ⟨g, 0, none⟩)] w fun e w' => e = .returned (.tuple #[]) ∧ NetPost w g A (dropN σ) w' := by
  obtain ⟨⟨c0, c1, c2, c3⟩, f0, f1, f2, f3⟩ := h.cells
  obtain ⟨h1, h2, ⟨h3, h4⟩, h5⟩ := hok
  have hp : NetPost w g A (dropN σ) (((w.setCell ⟨g, 2, none⟩ (.int .i64 (σ.l + σ.ps.length))).drew).setCell ⟨g, 3, none⟩ (.slice none 0 0)) := by
    have k1 := (h.setL (σ.l + σ.ps.length)).1
    refine ⟨none, 0, netP_setR (ps := []) k1 (PRow.nil _) (by simp [blk]), fun k hk => by simp [blk] at hk, ?_⟩
    exact (((Chg.refl _ _).set g 2 _ (fun _ => .inl rfl)).drew).set g 3 _ (fun _ => .inl rfl)
  have Hp := Lib.hid hp
  clear h hp h1 h2
  go_enter Try.func43, Try.ntmps43
  go_wp2_with fail
  have p2 := fun w' (hk : KeepsBut [] w.drew w') => hk.cell (p := ⟨g, 2, none⟩) c2 (by simp)
  have p3 := fun w' (hk : KeepsBut [] w.drew w') => hk.cell (p := ⟨g, 3, none⟩) c3 (by simp)
  refine wp_region_mix3 (KeepsBut []) (KeepsBut.refl []) (KeepsBut.trans []) [14] [(0, 0), (0, 1), (0, 2), (0, 3), (0, 5), (0, 6), (0, 7), (1, 4), (1, 8), (0, 9), (0, 10), (0, 11), (0, 12), (0, 13), (2, 14)] (by kernel_rfl) (by kernel_rfl) (fun d _ _ _ _ h => by cases d <;> exact h) ?_
  repeat (first
    | (refine mix3_free (v := ?_) rfl rfl ?_ (mix3_norm (a' := ?_) ?_ ?_)
       rotate_left
       focus (intro w'; go_simp; first | done | (with_reducible rfl))
       rotate_left
       focus (simp only [Act.put, List.getElem_toArray, List.getElem_cons_zero, List.getElem_cons_succ, List.setIfInBounds_toArray, List.set_cons_zero, List.set_cons_succ]; rfl))
    | (refine mix3_pure (v := ?_) rfl rfl ?_ (mix3_norm (a' := ?_) ?_ ?_)
       rotate_left
       focus (intro w' hR; go_simp; first | done | (with_reducible rfl))
       rotate_left
       focus (simp only [Act.put, List.getElem_toArray, List.getElem_cons_zero, List.getElem_cons_succ, List.setIfInBounds_toArray, List.set_cons_zero, List.set_cons_succ]; rfl))
    | (refine mix3_freeOff rfl rfl (mix3_norm (a' := ?_) ?_ ?_)
       rotate_left
       focus (simp only [Act.put, List.getElem_toArray, List.getElem_cons_zero, List.getElem_cons_succ, List.setIfInBounds_toArray, List.set_cons_zero, List.set_cons_succ]; rfl))
    | (refine mix3_off rfl rfl (mix3_norm (a' := ?_) ?_ ?_)
       rotate_left
       focus (simp only [Act.put, List.getElem_toArray, List.getElem_cons_zero, List.getElem_cons_succ, List.setIfInBounds_toArray, List.set_cons_zero, List.set_cons_succ]; rfl)))
  clear p2 p3
  refine mix3_eff rfl ?_
  simp only [List.getElem_toArray, List.getElem_cons_zero, List.getElem_cons_succ]
  go_wp2_with fail
  refine mixQ3_last (by simp) rfl ?_
  refine mix3_done ?_
  go_wp2_with fail
  go_end0
  exact ⟨rfl, Hp.out⟩
end Go.Proofs.Ytiolfnnkkflaiaa
