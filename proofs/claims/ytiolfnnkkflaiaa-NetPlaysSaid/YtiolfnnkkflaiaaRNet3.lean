/- The document's nets: one is there twice; one is cut; another one. -/
import Derived.Test.YtiolfnnkkflaiaaRNet2
open Go.RowKit
namespace Go.Proofs.Ytiolfnnkkflaiaa

set_option maxHeartbeats 1000000 in
set_option maxRecDepth 100000 in
theorem refTwice_any (w : World) (g : Nat) (A : Option Addr) (c : Nat) (σ : Nt) (hok : σ.ok) (h : NetR w g A c σ) (i : Int) :
    Calls Try.prog 73 #[.pointer (some ⟨g, 0, none⟩), .int .i64 i] w fun e w' => e = .returned (.int .i64 (twiceE σ i : Nat)) ∧ NetRPost w g A (twiceN σ i) w' := by
  have HH := Lib.hid (refIn_any w g A c σ h i)
  obtain ⟨⟨c3, c0, c1, c2'⟩, f3, f0, f1, f2⟩ := h.cells
  by_cases hin : inN σ i
  · rw [decide_eq_true hin] at HH
    by_cases h60 : σ.ps.length = 60
    · have H := Lib.hid (show twiceE σ i = 11 ∧ twiceN σ i = σ from ⟨by unfold twiceE; rw [if_pos hin, if_pos h60], by unfold twiceN; rw [if_neg (fun h => h.2 h60)]⟩)
      have Hp := Lib.hid (NetR.same (.refl _ _) h)
      have e60 : (60 : Int) ≤ (σ.ps.length : Int) := by omega
      clear h hok hin h60
      go_enter Try.func73, Try.ntmps73
      go_wp2_with fail
      refine HH.out.mono ?_
      rintro e w1 ⟨rfl, rfl⟩
      go_wp2_with fail
      go_ret
      exact ⟨by rw [H.out.1]; rfl, by rw [H.out.2]; exact Hp.out⟩
    · have H := Lib.hid (show twiceE σ i = 0 ∧ twiceN σ i = ⟨σ.s + 1, σ.c, σ.l, σ.ps ++ [pAt σ i]⟩ from ⟨by unfold twiceE; rw [if_pos hin, if_neg h60], by unfold twiceN; rw [if_pos ⟨hin, h60⟩]⟩)
      obtain ⟨k, hk, rfl⟩ := inN_nat hin
      have Hpk := Lib.hid (pAt_in hk)
      obtain ⟨b, rfl, hbl, hbg⟩ := h.row hk
      obtain ⟨d0, d1, _, _⟩ := h.2.1.cell k hk
      obtain ⟨⟨h1, h2⟩, _, _, h7⟩ := hok
      have e60 : ¬ (60 : Int) ≤ (σ.ps.length : Int) := by omega
      have HN := Lib.hid h
      have hlen : σ.ps.length + 1 ≤ 100000 := by omega
      have Hlen := Lib.hid hlen
      generalize hp : σ.ps[k] = p at d0 d1 Hpk
      obtain ⟨p1, p2⟩ := p
      simp only at d0 d1
      have hkI : (k : Int) < (σ.ps.length : Int) := by omega
      clear h hin h60 hp hlen h7
      go_enter Try.func73, Try.ntmps73
      go_wp2_with fail
      refine HH.out.mono ?_
      rintro e w1 ⟨rfl, rfl⟩
      go_wp2_with fail
      clear e60
      have q3 := fun w' (hk : KeepsBut [] w.drew w') => hk.cell (p := ⟨g, 0, none⟩) c3 (by simp)
      have q4 := fun w' (hk : KeepsBut [] w.drew w') => hk.cell (p := ⟨b, k * 2, none⟩) d0 (by simp)
      have q5 := fun w' (hk : KeepsBut [] w.drew w') => hk.cell (p := ⟨b, k * 2 + 1, none⟩) d1 (by simp)
      refine wp_region_mix3 (KeepsBut []) (KeepsBut.refl []) (KeepsBut.trans []) [13, 16] [(0, 0), (0, 1), (0, 2), (0, 3), (0, 5), (0, 6), (0, 7), (0, 9), (1, 4), (1, 8), (0, 10), (1, 11), (2, 12), (2, 13), (0, 14), (0, 15), (2, 16)] (by kernel_rfl) (by kernel_rfl) (fun d _ _ _ _ h => by cases d <;> exact h) ?_
      repeat (first
        | (refine mix3_free (v := ?_) rfl rfl ?_ (mix3_norm (a' := ?_) ?_ ?_)
           rotate_left
           focus (intro w'; go_simp; first | done | (with_reducible rfl))
           rotate_left
           focus (simp only [Act.put, List.getElem_toArray, List.getElem_cons_zero, List.getElem_cons_succ, List.setIfInBounds_toArray, List.set_cons_zero, List.set_cons_succ]; rfl))
        | (refine mix3_pure (v := ?_) rfl rfl ?_ (mix3_norm (a' := ?_) ?_ ?_)
           rotate_left
           focus (intro w' hR; go_simp; first | done | (with_reducible rfl))
           rotate_left
           focus (simp only [Act.put, List.getElem_toArray, List.getElem_cons_zero, List.getElem_cons_succ, List.setIfInBounds_toArray, List.set_cons_zero, List.set_cons_succ]; rfl))
        | (refine mix3_freeOff rfl rfl (mix3_norm (a' := ?_) ?_ ?_)
           rotate_left
           focus (simp only [Act.put, List.getElem_toArray, List.getElem_cons_zero, List.getElem_cons_succ, List.setIfInBounds_toArray, List.set_cons_zero, List.set_cons_succ]; rfl))
        | (refine mix3_off rfl rfl (mix3_norm (a' := ?_) ?_ ?_)
           rotate_left
           focus (simp only [Act.put, List.getElem_toArray, List.getElem_cons_zero, List.getElem_cons_succ, List.setIfInBounds_toArray, List.set_cons_zero, List.set_cons_succ]; rfl)))
      clear q3 q4 q5 c0 c1 c2' c3 f0 f1 f2 f3 d0 d1
      refine mix3_eff rfl ?_
      simp only [List.getElem_toArray, List.getElem_cons_zero, List.getElem_cons_succ]
      go_wp2_with fail
      refine mixQ3_normal (keeps_alloc_drew _ _) rfl ?_
      refine mix3_eff rfl ?_
      simp only [List.getElem_toArray, List.getElem_cons_zero, List.getElem_cons_succ]
      refine wpList_append_pk rfl (.tmp 19) (.tmp 27) rfl (some ⟨b, 0, none⟩) c σ.ps rfl (HN.out.2.1.chg (F := fun _ => False) (.of_below (((Below.refl w.heap.size w).alloc (Nat.le_refl _) _).drew)) (fun _ _ f => f)) (some ⟨w.heap.size, 0, none⟩) 1 [(p1, p2)] 1 rfl rfl (Reads.of_block (n := 1) (cs := #[.int .i64 p1, .string p2]) (heap_alloc_new _ _) rfl) Hlen.out ?_
      intro A1 c1 w3 hrow hc3 hblk
      have hc3 : Chg (fun i => blk (some ⟨b, 0, none⟩) = some i) w w3 := (Chg.of_below (F := fun i => blk (some ⟨b, 0, none⟩) = some i) (((Below.refl w.heap.size w).alloc (Nat.le_refl _) _).drew)).trans hc3 (fun _ _ h => h)
      have hblk : ∀ k, blk A1 = some k → blk (some ⟨b, 0, none⟩) = some k ∨ w.heap.size ≤ k := fun k hk => by
        rcases hblk k hk with h | h
        · exact .inl h
        · right; rw [h]; show w.heap.size ≤ (w.heap.push _).size; rw [Array.size_push]; omega
      have hlt : g < w.heap.size := HN.out.lt
      have hne : blk A1 ≠ some g := fun e => by
        rcases hblk g e with h | h
        · exact HN.out.2.2 h
        · omega
      have hfin := netRGrow HN.out (Chg.refl _ _) HN.out.1 hrow hc3 hblk hne
      simp only [List.length_append, List.length_cons, List.length_nil, Nat.zero_add] at hfin
      obtain ⟨f3, _, _, _⟩ := (cells4 ((hc3.block g hlt HN.out.2.2).trans HN.out.1)).2
      obtain ⟨u3, c3⟩ : ∃ u, w3.cell? ⟨g, 0, none⟩ = some u := ⟨_, (cells4 ((hc3.block g hlt HN.out.2.2).trans HN.out.1)).1.1⟩
      have Hfin := Lib.hid hfin
      clear hrow hc3 hblk hlt hne hfin
      go_wp2_with fail
      refine mixQ3_last (by simp) rfl ?_
      repeat (first
        | (refine mix3_free (v := ?_) rfl rfl ?_ (mix3_norm (a' := ?_) ?_ ?_)
           rotate_left
           focus (intro w'; go_simp; first | done | (with_reducible rfl))
           rotate_left
           focus (simp only [Act.put, List.getElem_toArray, List.getElem_cons_zero, List.getElem_cons_succ, List.setIfInBounds_toArray, List.set_cons_zero, List.set_cons_succ]; rfl))
        | (refine mix3_pure (v := ?_) rfl rfl ?_ (mix3_norm (a' := ?_) ?_ ?_)
           rotate_left
           focus (intro w' hR; go_simp; first | done | (with_reducible rfl))
           rotate_left
           focus (simp only [Act.put, List.getElem_toArray, List.getElem_cons_zero, List.getElem_cons_succ, List.setIfInBounds_toArray, List.set_cons_zero, List.set_cons_succ]; rfl))
        | (refine mix3_freeOff rfl rfl (mix3_norm (a' := ?_) ?_ ?_)
           rotate_left
           focus (simp only [Act.put, List.getElem_toArray, List.getElem_cons_zero, List.getElem_cons_succ, List.setIfInBounds_toArray, List.set_cons_zero, List.set_cons_succ]; rfl))
        | (refine mix3_off rfl rfl (mix3_norm (a' := ?_) ?_ ?_)
           rotate_left
           focus (simp only [Act.put, List.getElem_toArray, List.getElem_cons_zero, List.getElem_cons_succ, List.setIfInBounds_toArray, List.set_cons_zero, List.set_cons_succ]; rfl)))
      refine mix3_eff rfl ?_
      simp only [List.getElem_toArray, List.getElem_cons_zero, List.getElem_cons_succ]
      go_wp2_with fail
      refine mixQ3_last (by simp) rfl ?_
      refine mix3_done ?_
      clear c3 f3
      generalize w3.setCell ⟨g, 0, none⟩ (.slice A1 (σ.ps.length + 1) c1) = w4 at Hfin ⊢
      obtain ⟨A4, c4, hN4, hk4, hC4⟩ := Hfin.out
      obtain ⟨⟨_, c0, _, _⟩, _, f0, _, _⟩ := hN4.cells
      simp only at c0
      have Hp := Lib.hid (show NetRPost w g (some ⟨b, 0, none⟩) ⟨σ.s + 1, σ.c, σ.l, σ.ps ++ [(p1, p2)]⟩ (w4.setCell ⟨g, 1, none⟩ (.int .i64 (σ.s + 1))) from ⟨A4, c4, hN4.setS (σ.s + 1), hk4, hC4.set g 1 _ (fun _ => .inl rfl)⟩)
      clear hN4 hk4 hC4 Hfin
      go_wp2_with fail
      go_ret
      exact ⟨by rw [H.out.1]; rfl, by rw [H.out.2, Hpk.out]; exact Hp.out⟩
  · have H := Lib.hid (show twiceE σ i = 3 ∧ twiceN σ i = σ from ⟨by unfold twiceE; rw [if_neg hin], by unfold twiceN; rw [if_neg (fun h => hin h.1)]⟩)
    have Hp := Lib.hid (NetR.same (.refl _ _) h)
    rw [decide_eq_false hin] at HH
    clear h hok hin
    go_enter Try.func73, Try.ntmps73
    go_wp2_with fail
    refine HH.out.mono ?_
    rintro e w1 ⟨rfl, rfl⟩
    go_wp2_with fail
    go_ret
    exact ⟨by rw [H.out.1]; rfl, by rw [H.out.2]; exact Hp.out⟩

/-! ### one is cut -/
theorem PRow.set0 {w : World} {b c : Nat} {ps : List (Int × ByteArray)} (h : PRow w (some ⟨b, 0, none⟩) c ps) (k : Nat) (hk : k < ps.length) : PRow (w.setCell ⟨b, k * 2, none⟩ (.int .i64 ps[k].1)) (some ⟨b, 0, none⟩) c ps := by
  have h1 := (World.ownsRow.stored h (k * 2) (.int .i64 ps[k].1)).1
  rw [pks_set0 ps k hk] at h1
  exact h1
theorem NetR.cutAt {w : World} {g b c : Nat} {σ : Nt} (h : NetR w g (some ⟨b, 0, none⟩) c σ) (hb : b ≠ g) (k : Nat) (hk : k < σ.ps.length) (s : ByteArray) :
    NetRPost w g (some ⟨b, 0, none⟩) ⟨σ.s, σ.c, σ.l, σ.ps.set k (σ.ps[k].1, s)⟩ ((w.setCell ⟨b, k * 2, none⟩ (.int .i64 σ.ps[k].1)).setCell ⟨b, k * 2 + 1, none⟩ (.string s)) := by
  refine ⟨some ⟨b, 0, none⟩, c, ⟨?_, (h.2.1.set0 k hk).set1 k hk s, h.2.2⟩, fun _ hk => .inl hk, ((Chg.refl _ _).set b _ _ (fun _ => .inr rfl)).set b _ _ (fun _ => .inr rfl)⟩
  rw [List.length_set]
  exact (heap_setCell_other _ ⟨b, k * 2 + 1, none⟩ g _ (fun e => hb e.symm)).trans ((heap_setCell_other w ⟨b, k * 2, none⟩ g _ (fun e => hb e.symm)).trans h.1)
theorem NetRPost.from {w w1 w2 : World} {g : Nat} {A : Option Addr} {σ : Nt} (h : NetRPost w1 g A σ w2) (hb : Below w.heap.size w w1) : NetRPost w g A σ w2 := by
  obtain ⟨A', c', h1, h2, h3⟩ := h
  exact ⟨A', c', h1, fun k hk => by
    rcases h2 k hk with h | h
    · exact .inl h
    · exact .inr (Nat.le_trans hb.size h), (Chg.of_below hb).trans h3 (fun _ _ h => h)⟩

set_option maxHeartbeats 1000000 in
set_option maxRecDepth 100000 in
theorem refCut_any (w : World) (g : Nat) (A : Option Addr) (c : Nat) (σ : Nt) (h : NetR w g A c σ) (i n : Int) :
    Calls Try.prog 74 #[.pointer (some ⟨g, 0, none⟩), .int .i64 i, .int .i64 n] w fun e w' => e = .returned (.int .i64 (cutE σ i n : Nat)) ∧ NetRPost w g A (cutN σ i n) w' := by
  have HH := Lib.hid (refIn_any w g A c σ h i)
  by_cases hin : inN σ i
  · rw [decide_eq_true hin] at HH
    obtain ⟨k, hk, rfl⟩ := inN_nat hin
    have hpk := pAt_in hk
    obtain ⟨b, rfl, hbl, hbg⟩ := h.row hk
    obtain ⟨d0, d1, _, _⟩ := h.2.1.cell k hk
    obtain ⟨⟨c3, _, _, _⟩, _⟩ := h.cells
    have hkI : (k : Int) < (σ.ps.length : Int) := by omega
    obtain ⟨hb1, hg1, _⟩ := alloc1 w #[.int .i64 σ.ps[k].1, .string σ.ps[k].2] 70
    have hN1 := h.chg (F := fun _ => False) (.of_below hb1) (fun _ _ f => f)
    by_cases hn : n < 0 ∨ ((pAt σ k).2.size : Int) < n
    · have H := Lib.hid (show cutE σ k n = 4 ∧ cutN σ k n = σ from ⟨by unfold cutE; rw [if_pos hin, if_pos hn], by unfold cutN; rw [if_neg (fun h => h.2 hn)]⟩)
      have Hp := Lib.hid (NetR.same (.of_below hb1) hN1)
      rw [hpk] at hn
      generalize σ.ps[k] = p at d0 d1 hn Hp hg1
      obtain ⟨q0, q1, _, _⟩ := cells2 hg1
      clear hpk h hin hb1 hN1 hg1
      rcases hn with hn | hn
      · go_enter Try.func74, Try.ntmps74
        go_wp2_with fail
        refine HH.out.mono ?_
        rintro e w1 ⟨rfl, rfl⟩
        go_wp2_with fail
        go_ret
        exact ⟨by rw [H.out.1]; rfl, by rw [H.out.2]; exact Hp.out⟩
      · have hn0 : ¬ n < 0 := by omega
        go_enter Try.func74, Try.ntmps74
        go_wp2_with fail
        refine HH.out.mono ?_
        rintro e w1 ⟨rfl, rfl⟩
        go_wp2_with fail
        go_ret
        exact ⟨by rw [H.out.1]; rfl, by rw [H.out.2]; exact Hp.out⟩
    · have H := Lib.hid (show cutE σ k n = 0 ∧ cutN σ k n = ⟨σ.s, σ.c, σ.l, σ.ps.set k (σ.ps[k].1, cutS σ.ps[k].2 n.toNat)⟩ from ⟨by unfold cutE; rw [if_pos hin, if_neg hn], by unfold cutN; rw [if_pos ⟨hin, hn⟩, hpk, Int.toNat_natCast]⟩)
      have hN2 := hN1.chg (F := fun _ => False) ((Chg.refl _ _).drew) (fun _ _ f => f)
      have hb2 := hb1.drew
      have Hp := Lib.hid ((hN2.cutAt hbg k hk (cutS σ.ps[k].2 n.toNat)).from hb2)
      rw [hpk] at hn
      have hn1 : 0 ≤ n := by omega
      have hn2 : n ≤ (σ.ps[k].2.size : Int) := by omega
      obtain ⟨n, rfl⟩ := Int.eq_ofNat_of_zero_le hn1
      rw [Int.toNat_natCast] at H Hp
      obtain ⟨⟨c4, _, _, _⟩, _⟩ := hN2.cells
      obtain ⟨e0, e1, f0, f1⟩ := hN2.2.1.cell k hk
      generalize σ.ps[k] = p at d0 d1 hn2 H Hp hg1 c4 e0 e1 hb1 hN1 hb2 hN2 f0 f1
      obtain ⟨q0, q1, _, _⟩ := cells2 hg1
      obtain ⟨p1, p2⟩ := p
      simp only at d0 d1 e0 e1 q0 q1 hn2 H Hp
      clear hpk h hin hn hb1 hN1 hb2 hN2 hg1
      unfold cutS at Hp
      go_enter Try.func74, Try.ntmps74
      go_wp2_with fail
      refine HH.out.mono ?_
      rintro e w1 ⟨rfl, rfl⟩
      go_wp2_with fail
      have q0 : (w.alloc (.cells #[.int .i64 p1, .string p2] 70)).drew.cell? ⟨w.heap.size, 0, none⟩ = some (.int .i64 p1) := q0
      have q1 : (w.alloc (.cells #[.int .i64 p1, .string p2] 70)).drew.cell? ⟨w.heap.size, 1, none⟩ = some (.string p2) := q1
      refine wp_region_mix3 (KeepsBut []) (KeepsBut.refl []) (KeepsBut.trans []) [13] [(0, 0), (0, 1), (0, 2), (0, 4), (0, 5), (0, 7), (0, 9), (1, 3), (1, 6), (1, 8), (0, 10), (0, 11), (0, 12), (2, 13)] (by kernel_rfl) (by kernel_rfl) (fun d _ _ _ _ h => by cases d <;> exact h) ?_
      generalize (w.alloc (.cells #[.int .i64 p1, .string p2] 70)).drew = W1 at *
      have r3 := fun w' (hk : KeepsBut [] W1 w') => hk.cell (p := ⟨g, 0, none⟩) c4 (by simp)
      have r0 := fun w' (hk : KeepsBut [] W1 w') => hk.cell (p := ⟨w.heap.size, 0, none⟩) q0 (by simp)
      have r1 := fun w' (hk : KeepsBut [] W1 w') => hk.cell (p := ⟨w.heap.size, 1, none⟩) q1 (by simp)
      repeat (first
        | (refine mix3_free (v := ?_) rfl rfl ?_ (mix3_norm (a' := ?_) ?_ ?_)
           rotate_left
           focus (intro w'; go_simp; first | done | (with_reducible rfl))
           rotate_left
           focus (simp only [Act.put, List.getElem_toArray, List.getElem_cons_zero, List.getElem_cons_succ, List.setIfInBounds_toArray, List.set_cons_zero, List.set_cons_succ]; rfl))
        | (refine mix3_pure (v := ?_) rfl rfl ?_ (mix3_norm (a' := ?_) ?_ ?_)
           rotate_left
           focus (intro w' hR; go_simp; first | done | (with_reducible rfl))
           rotate_left
           focus (simp only [Act.put, List.getElem_toArray, List.getElem_cons_zero, List.getElem_cons_succ, List.setIfInBounds_toArray, List.set_cons_zero, List.set_cons_succ]; rfl))
        | (refine mix3_freeOff rfl rfl (mix3_norm (a' := ?_) ?_ ?_)
           rotate_left
           focus (simp only [Act.put, List.getElem_toArray, List.getElem_cons_zero, List.getElem_cons_succ, List.setIfInBounds_toArray, List.set_cons_zero, List.set_cons_succ]; rfl))
        | (refine mix3_off rfl rfl (mix3_norm (a' := ?_) ?_ ?_)
           rotate_left
           focus (simp only [Act.put, List.getElem_toArray, List.getElem_cons_zero, List.getElem_cons_succ, List.setIfInBounds_toArray, List.set_cons_zero, List.set_cons_succ]; rfl)))
      clear r3 r0 r1
      refine mix3_eff rfl ?_
      simp only [List.getElem_toArray, List.getElem_cons_zero, List.getElem_cons_succ]
      go_wp2_with fail
      refine mixQ3_last (by simp) rfl ?_
      refine mix3_done ?_
      go_wp2_with fail
      go_ret
      exact ⟨by rw [H.out.1]; rfl, by rw [H.out.2]; exact Hp.out⟩
  · have H := Lib.hid (show cutE σ i n = 3 ∧ cutN σ i n = σ from ⟨by unfold cutE; rw [if_neg hin], by unfold cutN; rw [if_neg (fun h => hin h.1)]⟩)
    have Hp := Lib.hid (NetR.same (.refl _ _) h)
    rw [decide_eq_false hin] at HH
    clear h hin
    go_enter Try.func74, Try.ntmps74
    go_wp2_with fail
    refine HH.out.mono ?_
    rintro e w1 ⟨rfl, rfl⟩
    go_wp2_with fail
    go_ret
    exact ⟨by rw [H.out.1]; rfl, by rw [H.out.2]; exact Hp.out⟩
end Go.Proofs.Ytiolfnnkkflaiaa
