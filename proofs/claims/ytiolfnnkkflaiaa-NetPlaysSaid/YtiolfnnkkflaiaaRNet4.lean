/- The document's nets: another one. -/
import Derived.Test.YtiolfnnkkflaiaaRNet3
open Go.RowKit
namespace Go.Proofs.Ytiolfnnkkflaiaa

set_option maxHeartbeats 1000000 in
set_option maxRecDepth 100000 in
theorem refCopy_any (w : World) (g : Nat) (A : Option Addr) (c : Nat) (σ : Nt) (hok : σ.ok) (h : NetR w g A c σ) :
    Calls Try.prog 42 #[.pointer (some ⟨g, 0, none⟩)] w fun e w' => ∃ g' A' c', e = .returned (.pointer (some ⟨g', 0, none⟩)) ∧ NetR w' g' A' c' σ ∧ w.heap.size ≤ g' ∧ (∀ k, blk A' = some k → w.heap.size ≤ k) ∧ Below w.heap.size w w' := by
  obtain ⟨⟨c0, c1, c2, c3⟩, _⟩ := h.cells
  have Hlen := Lib.hid (show σ.ps.length ≤ 100000 by have := hok.2.2.2; omega)
  have Hrow := Lib.hid h.2.1.reads
  have Hlt := Lib.hid h.lt
  have hsize : w.drew.heap.size = w.heap.size := rfl
  clear h hok
  go_enter Try.func42, Try.ntmps42
  go_wp2_with fail
  have p1 := fun w' (hk : KeepsBut [] w.drew w') => hk.cell (p := ⟨g, 1, none⟩) c1 (by simp)
  have p2 := fun w' (hk : KeepsBut [] w.drew w') => hk.cell (p := ⟨g, 2, none⟩) c2 (by simp)
  have p3 := fun w' (hk : KeepsBut [] w.drew w') => hk.cell (p := ⟨g, 3, none⟩) c3 (by simp)
  refine wp_region_mix3 (KeepsBut []) (KeepsBut.refl []) (KeepsBut.trans []) [] [(0, 0), (0, 1), (0, 2), (0, 4), (0, 5), (0, 6), (0, 8), (0, 9), (0, 10), (1, 3), (1, 7), (1, 11), (0, 12), (2, 13), (0, 14)] (by kernel_rfl) (by kernel_rfl) (fun d _ _ _ _ h => by cases d <;> exact h) ?_
  repeat (first
    | (refine mix3_free (v := ?_) rfl rfl ?_ (mix3_norm (a' := ?_) ?_ ?_)
       rotate_left
       focus (intro w'; go_simp; first | done | (with_reducible rfl))
       rotate_left
       focus (simp only [Act.put, List.getElem_toArray, List.getElem_cons_zero, List.getElem_cons_succ, List.setIfInBounds_toArray, List.set_cons_zero, List.set_cons_succ]; rfl))
    | (refine mix3_pure (v := ?_) rfl rfl ?_ (mix3_norm (a' := ?_) ?_ ?_)
       rotate_left
       focus (intro w' hR; go_simp; first | done | (with_reducible rfl))
       rotate_left
       focus (simp only [Act.put, List.getElem_toArray, List.getElem_cons_zero, List.getElem_cons_succ, List.setIfInBounds_toArray, List.set_cons_zero, List.set_cons_succ]; rfl))
    | (refine mix3_freeOff rfl rfl (mix3_norm (a' := ?_) ?_ ?_)
       rotate_left
       focus (simp only [Act.put, List.getElem_toArray, List.getElem_cons_zero, List.getElem_cons_succ, List.setIfInBounds_toArray, List.set_cons_zero, List.set_cons_succ]; rfl))
    | (refine mix3_off rfl rfl (mix3_norm (a' := ?_) ?_ ?_)
       rotate_left
       focus (simp only [Act.put, List.getElem_toArray, List.getElem_cons_zero, List.getElem_cons_succ, List.setIfInBounds_toArray, List.set_cons_zero, List.set_cons_succ]; rfl)))
  clear p1 p2 p3
  refine mix3_eff rfl ?_
  simp only [List.getElem_toArray, List.getElem_cons_zero, List.getElem_cons_succ]
  go_wp2_with fail
  refine mixQ3_normal (keeps_alloc w.drew _) rfl ?_
  repeat (first
    | (refine mix3_free (v := ?_) rfl rfl ?_ (mix3_norm (a' := ?_) ?_ ?_)
       rotate_left
       focus (intro w'; go_simp; first | done | (with_reducible rfl))
       rotate_left
       focus (simp only [Act.put, List.getElem_toArray, List.getElem_cons_zero, List.getElem_cons_succ, List.setIfInBounds_toArray, List.set_cons_zero, List.set_cons_succ]; rfl))
    | (refine mix3_pure (v := ?_) rfl rfl ?_ (mix3_norm (a' := ?_) ?_ ?_)
       rotate_left
       focus (intro w' hR; go_simp; first | done | (with_reducible rfl))
       rotate_left
       focus (simp only [Act.put, List.getElem_toArray, List.getElem_cons_zero, List.getElem_cons_succ, List.setIfInBounds_toArray, List.set_cons_zero, List.set_cons_succ]; rfl))
    | (refine mix3_freeOff rfl rfl (mix3_norm (a' := ?_) ?_ ?_)
       rotate_left
       focus (simp only [Act.put, List.getElem_toArray, List.getElem_cons_zero, List.getElem_cons_succ, List.setIfInBounds_toArray, List.set_cons_zero, List.set_cons_succ]; rfl))
    | (refine mix3_off rfl rfl (mix3_norm (a' := ?_) ?_ ?_)
       rotate_left
       focus (simp only [Act.put, List.getElem_toArray, List.getElem_cons_zero, List.getElem_cons_succ, List.setIfInBounds_toArray, List.set_cons_zero, List.set_cons_succ]; rfl)))
  refine mix3_done ?_
  go_wp2_with fail
  obtain ⟨hb, hg, hs⟩ := alloc1 w #[.slice none 0 0, .int .i64 σ.s, .int .i64 σ.c, .int .i64 σ.l] 47
  have hb := hb.drew
  have hg : (w.alloc (.cells #[.slice none 0 0, .int .i64 σ.s, .int .i64 σ.c, .int .i64 σ.l] 47)).drew.heap[w.heap.size]? = some (.cells #[.slice none 0 0, .int .i64 σ.s, .int .i64 σ.c, .int .i64 σ.l] 47 (0, 0)) := hg
  have hs : (w.alloc (.cells #[.slice none 0 0, .int .i64 σ.s, .int .i64 σ.c, .int .i64 σ.l] 47)).drew.heap.size = w.heap.size + 1 := hs
  generalize (w.alloc (.cells #[.slice none 0 0, .int .i64 σ.s, .int .i64 σ.c, .int .i64 σ.l] 47)).drew = w1 at *
  obtain ⟨d0, _, _, _⟩ := (cells4 hg).1
  obtain ⟨f0, _, _, _⟩ := (cells4 hg).2
  have c0 := (hb.cell (p := ⟨g, 0, none⟩) Hlt.out).trans c0
  have p1 := fun w' (hk : KeepsBut [] w1.drew w') => hk.cell (p := ⟨g, 0, none⟩) c0 (by simp)
  have p2 := fun w' (hk : KeepsBut [] w1.drew w') => hk.cell (p := ⟨w.heap.size, 0, none⟩) d0 (by simp)
  refine wp_region_mix3 (KeepsBut []) (KeepsBut.refl []) (KeepsBut.trans []) [9, 12] [(0, 0), (0, 1), (0, 2), (0, 3), (0, 5), (0, 6), (0, 7), (1, 4), (1, 8), (2, 9), (0, 10), (0, 11), (2, 12)] (by kernel_rfl) (by kernel_rfl) (fun d _ _ _ _ h => by cases d <;> exact h) ?_
  repeat (first
    | (refine mix3_free (v := ?_) rfl rfl ?_ (mix3_norm (a' := ?_) ?_ ?_)
       rotate_left
       focus (intro w'; go_simp; first | done | (with_reducible rfl))
       rotate_left
       focus (simp only [Act.put, List.getElem_toArray, List.getElem_cons_zero, List.getElem_cons_succ, List.setIfInBounds_toArray, List.set_cons_zero, List.set_cons_succ]; rfl))
    | (refine mix3_pure (v := ?_) rfl rfl ?_ (mix3_norm (a' := ?_) ?_ ?_)
       rotate_left
       focus (intro w' hR; go_simp; first | done | (with_reducible rfl))
       rotate_left
       focus (simp only [Act.put, List.getElem_toArray, List.getElem_cons_zero, List.getElem_cons_succ, List.setIfInBounds_toArray, List.set_cons_zero, List.set_cons_succ]; rfl))
    | (refine mix3_freeOff rfl rfl (mix3_norm (a' := ?_) ?_ ?_)
       rotate_left
       focus (simp only [Act.put, List.getElem_toArray, List.getElem_cons_zero, List.getElem_cons_succ, List.setIfInBounds_toArray, List.set_cons_zero, List.set_cons_succ]; rfl))
    | (refine mix3_off rfl rfl (mix3_norm (a' := ?_) ?_ ?_)
       rotate_left
       focus (simp only [Act.put, List.getElem_toArray, List.getElem_cons_zero, List.getElem_cons_succ, List.setIfInBounds_toArray, List.set_cons_zero, List.set_cons_succ]; rfl)))
  clear p1 p2 c0 d0 f0
  refine mix3_eff rfl ?_
  simp only [List.getElem_toArray, List.getElem_cons_zero, List.getElem_cons_succ]
  refine wpList_append_pk rfl (.tmp 22) (.tmp 26) rfl none 0 [] rfl (PRow.nil _) A c σ.ps σ.ps.length rfl rfl (Hrow.out.below hb.drew) (by have := Hlen.out; simp; omega) ?_
  intro A1 c1 w3 hrow hchg hblk
  rw [List.nil_append] at hrow ⊢
  have hC : Chg (fun i => blk none = some i) w1 w3 := ((Chg.refl _ w1).drew).trans hchg (fun _ _ h => h)
  have hlt : w.heap.size < w1.heap.size := by omega
  have g3 := (hC.block w.heap.size hlt (fun e => by simp [blk] at e)).trans hg
  have hb3 : Below w.heap.size w w3 := hb.trans (hC.below (fun i _ e => by simp [blk] at e) hb.size)
  have hk3 : ∀ k, blk A1 = some k → w.heap.size + 1 ≤ k := fun k hk => by
    rcases hblk k hk with h | h
    · simp [blk] at h
    · rw [h]; show w.heap.size + 1 ≤ w1.heap.size; omega
  have hfin := netR_setR g3 hrow (fun e => by have := hk3 _ e; omega)
  have Hfin := Lib.hid (show NetR (w3.setCell ⟨w.heap.size, 0, none⟩ (.slice A1 σ.ps.length c1)) w.heap.size A1 c1 σ ∧ w.heap.size ≤ w.heap.size ∧ (∀ k, blk A1 = some k → w.heap.size ≤ k) ∧ Below w.heap.size w (w3.setCell ⟨w.heap.size, 0, none⟩ (.slice A1 σ.ps.length c1)) from
    ⟨hfin, Nat.le_refl _, fun k hk => by have := hk3 k hk; omega, hb3.trans (((Chg.refl (fun i => i = w.heap.size) w3).set w.heap.size 0 _ (fun _ => rfl)).below (fun i hi e => by omega) hb3.size)⟩)
  obtain ⟨f3, _, _, _⟩ := (cells4 g3).2
  obtain ⟨d3, _, _, _⟩ := (cells4 g3).1
  clear hrow hC hlt g3 hb3 hk3 hfin hchg hblk hs hg hb
  go_wp2_with fail
  refine mixQ3_last (by simp) rfl ?_
  repeat (first
    | (refine mix3_free (v := ?_) rfl rfl ?_ (mix3_norm (a' := ?_) ?_ ?_)
       rotate_left
       focus (intro w'; go_simp; first | done | (with_reducible rfl))
       rotate_left
       focus (simp only [Act.put, List.getElem_toArray, List.getElem_cons_zero, List.getElem_cons_succ, List.setIfInBounds_toArray, List.set_cons_zero, List.set_cons_succ]; rfl))
    | (refine mix3_pure (v := ?_) rfl rfl ?_ (mix3_norm (a' := ?_) ?_ ?_)
       rotate_left
       focus (intro w' hR; go_simp; first | done | (with_reducible rfl))
       rotate_left
       focus (simp only [Act.put, List.getElem_toArray, List.getElem_cons_zero, List.getElem_cons_succ, List.setIfInBounds_toArray, List.set_cons_zero, List.set_cons_succ]; rfl))
    | (refine mix3_freeOff rfl rfl (mix3_norm (a' := ?_) ?_ ?_)
       rotate_left
       focus (simp only [Act.put, List.getElem_toArray, List.getElem_cons_zero, List.getElem_cons_succ, List.setIfInBounds_toArray, List.set_cons_zero, List.set_cons_succ]; rfl))
    | (refine mix3_off rfl rfl (mix3_norm (a' := ?_) ?_ ?_)
       rotate_left
       focus (simp only [Act.put, List.getElem_toArray, List.getElem_cons_zero, List.getElem_cons_succ, List.setIfInBounds_toArray, List.set_cons_zero, List.set_cons_succ]; rfl)))
  refine mix3_eff rfl ?_
  simp only [List.getElem_toArray, List.getElem_cons_zero, List.getElem_cons_succ]
  go_wp2_with fail
  refine mixQ3_last (by simp) rfl ?_
  refine mix3_done ?_
  go_wp2_with fail
  go_ret
  exact ⟨_, _, _, rfl, Hfin.out⟩
end Go.Proofs.Ytiolfnnkkflaiaa
