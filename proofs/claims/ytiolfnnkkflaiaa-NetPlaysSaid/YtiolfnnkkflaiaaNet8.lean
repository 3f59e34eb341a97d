/- Packets: a copy of a row; a copy of a net. -/
import Derived.Test.YtiolfnnkkflaiaaNet7
open Go.RowKit
namespace Go.Proofs.Ytiolfnnkkflaiaa

theorem PRow.none_nil {w : World} {c : Nat} {ps : List (Int × ByteArray)} (h : PRow w none c ps) : ps = [] ∧ c = 0 := by
  rcases h.2 with ⟨h2, h3⟩ | ⟨g, cap, cur, hv, _⟩
  · exact ⟨List.eq_nil_of_length_eq_zero h3, by injection h2⟩
  · cases hv
theorem PRow.fresh (w : World) : PRow (w.alloc (.cells #[] 70)) (some ⟨w.heap.size, 0, none⟩) 0 [] :=
  ⟨rfl, .inr ⟨w.heap.size, 0, #[], rfl, Nat.zero_le _, heap_alloc_new _ _, Nat.le_refl _, Nat.zero_le _, rfl, rfl⟩⟩

set_option maxHeartbeats 1000000 in
set_option maxRecDepth 100000 in
theorem clonePk_any (w : World) (A : Option Addr) (c : Nat) (ps : List (Int × ByteArray)) (h : PRow w A c ps) (hlen : ps.length ≤ 100000) :
    Calls Try.prog 79 #[.slice A ps.length c] w fun e w' => ∃ A1 c1, e = .returned (.slice A1 ps.length c1) ∧ PRow w' A1 c1 ps ∧ (∀ k, blk A1 = some k → w.heap.size ≤ k) ∧ Below w.heap.size w w' := by
  have q : ∀ (w : World) (A : Option Addr) (n c : Nat), (binOp .eql 45 (.slice A n c) (.slice none 0 0)).run Try.prog w = .ok (.bool A.isNone) w := fun w A n c => Lib.run_eql_slice_nil w 45 70 A n c 0 0 Try.underlying45
  cases A with
  | none =>
    obtain ⟨rfl, rfl⟩ := h.none_nil
    clear h hlen
    go_enter Try.func79, Try.ntmps79
    go_wp2_with fail
    refine bodyPost_ret (v := .slice none 0 0) (results_tmp (t := 2) rfl _ _ _) rfl ?_
    exact ⟨none, 0, rfl, PRow.nil _, by simp [blk], Below.refl _ _⟩
  | some a =>
    have Hf := Lib.hid (PRow.fresh w)
    have hbb : Below w.heap.size w (w.alloc (.cells #[] 70)) := (Below.refl _ _).alloc (Nat.le_refl _) _
    have Hr := Lib.hid (show Reads (w.alloc (.cells #[] 70)) 2 (some a) ps.length (pks ps) from h.reads.below hbb)
    have Hb := Lib.hid hbb
    have Hlen := Lib.hid hlen
    clear hbb h hlen
    go_enter Try.func79, Try.ntmps79
    go_wp2_with (at_builtin; refine wpList_append_pk rfl (.tmp 5) (.tmp 6) rfl (some ⟨w.heap.size, 0, none⟩) 0 [] rfl Hf.out (some a) c ps ps.length rfl rfl Hr.out (by have := Hlen.out; simp; omega) ?_)
    intro A1 c1 w1 hrow hchg hblk
    have Hrow := Lib.hid hrow
    have Hb1 := Lib.hid (Hb.out.trans (hchg.below (B := w.heap.size) (fun i hi e => by have := Option.some.inj e; simp only at this; omega) Hb.out.size))
    have Hk := Lib.hid (show ∀ k, blk A1 = some k → w.heap.size ≤ k from fun k hk => by
      rcases hblk k hk with h | h
      · have := Option.some.inj h; simp only at this; omega
      · omega)
    clear hrow hchg hblk
    go_wp2_with fail
    go_ret
    exact ⟨A1, c1, rfl, Hrow.out, Hk.out, Hb1.out⟩

theorem keeps_alloc (w : World) (o : Obj) : KeepsBut [] w (w.alloc o) :=
  ⟨by show w.heap.size ≤ (w.heap.push _).size; rw [Array.size_push]; omega, fun i hi _ => heap_alloc_old w o hi⟩

set_option maxHeartbeats 1000000 in
set_option maxRecDepth 100000 in
theorem netCopy_any (w : World) (g : Nat) (A : Option Addr) (c : Nat) (σ : Nt) (hok : σ.ok) (h : NetP w g A c σ) :
    Calls Try.prog 41 #[.pointer (some ⟨g, 0, none⟩)] w fun e w' => ∃ g' A' c', e = .returned (.pointer (some ⟨g', 0, none⟩)) ∧ NetP w' g' A' c' σ ∧ w.heap.size ≤ g' ∧ (∀ k, blk A' = some k → w.heap.size ≤ k) ∧ Below w.heap.size w w' := by
  obtain ⟨⟨c0, c1, c2, c3⟩, _⟩ := h.cells
  have Hlen := Lib.hid (show σ.ps.length ≤ 100000 by have := hok.2.2.2; omega)
  have Hrow := Lib.hid h.2.1
  clear h hok
  go_enter Try.func41, Try.ntmps41
  go_wp2_with fail
  have p0 := fun w' (hk : KeepsBut [] w.drew w') => hk.cell (p := ⟨g, 0, none⟩) c0 (by simp)
  have p1 := fun w' (hk : KeepsBut [] w.drew w') => hk.cell (p := ⟨g, 1, none⟩) c1 (by simp)
  have p2 := fun w' (hk : KeepsBut [] w.drew w') => hk.cell (p := ⟨g, 2, none⟩) c2 (by simp)
  have p3 := fun w' (hk : KeepsBut [] w.drew w') => hk.cell (p := ⟨g, 3, none⟩) c3 (by simp)
  refine wp_region_mix3 (KeepsBut []) (KeepsBut.refl []) (KeepsBut.trans []) [] [(0, 0), (0, 1), (0, 2), (0, 4), (0, 5), (0, 6), (1, 3), (1, 7), (2, 8), (0, 9), (2, 10), (0, 11)] (by kernel_rfl) (by kernel_rfl) (fun d _ _ _ _ h => by cases d <;> exact h) ?_
  repeat (first
    | (refine mix3_free (v := ?_) rfl rfl ?_ (mix3_norm (a' := ?_) ?_ ?_)
       rotate_left
       focus (intro w'; go_simp; first | done | (with_reducible rfl))
       rotate_left
       focus (simp only [Act.put, List.getElem_toArray, List.getElem_cons_zero, List.getElem_cons_succ, List.setIfInBounds_toArray, List.set_cons_zero, List.set_cons_succ]; rfl))
    | (refine mix3_pure (v := ?_) rfl rfl ?_ (mix3_norm (a' := ?_) ?_ ?_)
       rotate_left
       focus (intro w' hR; go_simp; first | done | (with_reducible rfl))
       rotate_left
       focus (simp only [Act.put, List.getElem_toArray, List.getElem_cons_zero, List.getElem_cons_succ, List.setIfInBounds_toArray, List.set_cons_zero, List.set_cons_succ]; rfl))
    | (refine mix3_freeOff rfl rfl (mix3_norm (a' := ?_) ?_ ?_)
       rotate_left
       focus (simp only [Act.put, List.getElem_toArray, List.getElem_cons_zero, List.getElem_cons_succ, List.setIfInBounds_toArray, List.set_cons_zero, List.set_cons_succ]; rfl))
    | (refine mix3_off rfl rfl (mix3_norm (a' := ?_) ?_ ?_)
       rotate_left
       focus (simp only [Act.put, List.getElem_toArray, List.getElem_cons_zero, List.getElem_cons_succ, List.setIfInBounds_toArray, List.set_cons_zero, List.set_cons_succ]; rfl)))
  clear p0 p1 p2 p3
  refine mix3_eff rfl ?_
  simp only [List.getElem_toArray, List.getElem_cons_zero, List.getElem_cons_succ]
  go_wp2_with fail
  refine (clonePk_any w.drew A c σ.ps (Hrow.out.chg (F := fun _ => False) (.of_below ((Below.refl w.heap.size w).drew)) (fun _ _ f => f)) Hlen.out).mono ?_
  rintro e w1 ⟨A1, c1', rfl, hrow, hk, hb⟩
  go_wp2_with fail
  refine mixQ3_normal (KeepsBut.of_below hb) rfl ?_
  have hb1 : Below w.heap.size w w1 := ((Below.refl w.heap.size w).drew).trans hb
  obtain ⟨hb2, hg2, hs2⟩ := alloc1 w1 #[.int .i64 σ.s, .int .i64 σ.c, .int .i64 σ.l, .slice A1 σ.ps.length c1'] 99
  have Hfin := Lib.hid (show NetP _ w1.heap.size A1 c1' σ ∧ w.heap.size ≤ w1.heap.size ∧ (∀ k, blk A1 = some k → w.heap.size ≤ k) ∧ Below w.heap.size w _ from ⟨⟨hg2, hrow.chg (F := fun _ => False) (.of_below hb2) (fun _ _ f => f), fun e => absurd (hrow.lt e) (Nat.lt_irrefl _)⟩, hb1.size, hk, hb1.trans (hb2.mono (B' := w.heap.size) hb1.size)⟩)
  clear hb hb1 hb2 hg2 hs2 hrow hk Hrow
  repeat (first
    | (refine mix3_free (v := ?_) rfl rfl ?_ (mix3_norm (a' := ?_) ?_ ?_)
       rotate_left
       focus (intro w'; go_simp; first | done | (with_reducible rfl))
       rotate_left
       focus (simp only [Act.put, List.getElem_toArray, List.getElem_cons_zero, List.getElem_cons_succ, List.setIfInBounds_toArray, List.set_cons_zero, List.set_cons_succ]; rfl))
    | (refine mix3_pure (v := ?_) rfl rfl ?_ (mix3_norm (a' := ?_) ?_ ?_)
       rotate_left
       focus (intro w' hR; go_simp; first | done | (with_reducible rfl))
       rotate_left
       focus (simp only [Act.put, List.getElem_toArray, List.getElem_cons_zero, List.getElem_cons_succ, List.setIfInBounds_toArray, List.set_cons_zero, List.set_cons_succ]; rfl))
    | (refine mix3_freeOff rfl rfl (mix3_norm (a' := ?_) ?_ ?_)
       rotate_left
       focus (simp only [Act.put, List.getElem_toArray, List.getElem_cons_zero, List.getElem_cons_succ, List.setIfInBounds_toArray, List.set_cons_zero, List.set_cons_succ]; rfl))
    | (refine mix3_off rfl rfl (mix3_norm (a' := ?_) ?_ ?_)
       rotate_left
       focus (simp only [Act.put, List.getElem_toArray, List.getElem_cons_zero, List.getElem_cons_succ, List.setIfInBounds_toArray, List.set_cons_zero, List.set_cons_succ]; rfl)))
  refine mix3_eff rfl ?_
  simp only [List.getElem_toArray, List.getElem_cons_zero, List.getElem_cons_succ]
  go_wp2_with fail
  refine mixQ3_normal (keeps_alloc w1 _) rfl ?_
  repeat (first
    | (refine mix3_free (v := ?_) rfl rfl ?_ (mix3_norm (a' := ?_) ?_ ?_)
       rotate_left
       focus (intro w'; go_simp; first | done | (with_reducible rfl))
       rotate_left
       focus (simp only [Act.put, List.getElem_toArray, List.getElem_cons_zero, List.getElem_cons_succ, List.setIfInBounds_toArray, List.set_cons_zero, List.set_cons_succ]; rfl))
    | (refine mix3_pure (v := ?_) rfl rfl ?_ (mix3_norm (a' := ?_) ?_ ?_)
       rotate_left
       focus (intro w' hR; go_simp; first | done | (with_reducible rfl))
       rotate_left
       focus (simp only [Act.put, List.getElem_toArray, List.getElem_cons_zero, List.getElem_cons_succ, List.setIfInBounds_toArray, List.set_cons_zero, List.set_cons_succ]; rfl))
    | (refine mix3_freeOff rfl rfl (mix3_norm (a' := ?_) ?_ ?_)
       rotate_left
       focus (simp only [Act.put, List.getElem_toArray, List.getElem_cons_zero, List.getElem_cons_succ, List.setIfInBounds_toArray, List.set_cons_zero, List.set_cons_succ]; rfl))
    | (refine mix3_off rfl rfl (mix3_norm (a' := ?_) ?_ ?_)
       rotate_left
       focus (simp only [Act.put, List.getElem_toArray, List.getElem_cons_zero, List.getElem_cons_succ, List.setIfInBounds_toArray, List.set_cons_zero, List.set_cons_succ]; rfl)))
  refine mix3_done ?_
  go_wp2_with fail
  go_ret
  exact ⟨_, _, _, rfl, Hfin.out⟩
end Go.Proofs.Ytiolfnnkkflaiaa
