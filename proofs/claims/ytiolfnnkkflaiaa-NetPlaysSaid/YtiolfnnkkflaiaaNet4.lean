/- Nets: one is there twice; one is cut. -/
import Derived.Test.YtiolfnnkkflaiaaNet3
open Go.RowKit
namespace Go.Proofs.Ytiolfnnkkflaiaa

theorem NetP.row {w : World} {g c : Nat} {A : Option Addr} {σ : Nt} (h : NetP w g A c σ) {k : Nat} (hk : k < σ.ps.length) : ∃ b, A = some ⟨b, 0, none⟩ ∧ b < w.heap.size ∧ b ≠ g := by
  obtain ⟨b, rfl, hb⟩ := h.2.1.form (by omega)
  exact ⟨b, rfl, hb, fun e => h.2.2 (by rw [← e]; rfl)⟩

set_option maxHeartbeats 1000000 in
set_option maxRecDepth 100000 in
theorem netTwice_any (w : World) (g : Nat) (A : Option Addr) (c : Nat) (σ : Nt) (hok : σ.ok) (h : NetP w g A c σ) (i : Int) :
    Calls Try.prog 48 #[.pointer (some ⟨g, 0, none⟩), .int .i64 i] w fun e w' => e = .returned (.int .i64 (twiceE σ i : Nat)) ∧ NetPost w g A (twiceN σ i) w' := by
  have HH := Lib.hid (netHas_any w g A c σ h i)
  obtain ⟨⟨c0, c1, c2', c3⟩, f0, f1, f2, f3⟩ := h.cells
  by_cases hin : inN σ i
  · rw [hasE_in hin] at HH
    by_cases h60 : σ.ps.length = 60
    · have H := Lib.hid (show twiceE σ i = 11 ∧ twiceN σ i = σ from ⟨by unfold twiceE; rw [if_pos hin, if_pos h60], by unfold twiceN; rw [if_neg (fun h => h.2 h60)]⟩)
      have Hp := Lib.hid (NetP.same (.refl _ _) h)
      have e60 : ((σ.ps.length : Int) == 60) = true := by rw [h60]; rfl
      clear h hok hin h60
      go_enter Try.func48, Try.ntmps48
      go_wp2_with fail
      refine HH.out.mono ?_
      rintro e w1 ⟨rfl, rfl⟩
      go_wp2_with fail
      go_ret
      exact ⟨by rw [H.out.1]; rfl, by rw [H.out.2]; exact Hp.out⟩
    · have H := Lib.hid (show twiceE σ i = 0 ∧ twiceN σ i = ⟨σ.s + 1, σ.c, σ.l, σ.ps ++ [pAt σ i]⟩ from ⟨by unfold twiceE; rw [if_pos hin, if_neg h60], by unfold twiceN; rw [if_pos ⟨hin, h60⟩]⟩)
      obtain ⟨k, hk, rfl⟩ := inN_nat hin
      have Hpk := Lib.hid (pAt_in hk)
      obtain ⟨b, rfl, hbl, hbg⟩ := h.row hk
      obtain ⟨d0, d1, _, _⟩ := h.2.1.cell k hk
      obtain ⟨⟨h1, h2⟩, _, _, h7⟩ := hok
      have e60 : ((σ.ps.length : Int) == 60) = false := by rw [beq_eq_false_iff_ne]; omega
      have HN := Lib.hid h
      have hlen : σ.ps.length + 1 ≤ 100000 := by omega
      have Hlen := Lib.hid hlen
      generalize hp : σ.ps[k] = p at d0 d1 Hpk
      obtain ⟨p1, p2⟩ := p
      simp only at d0 d1
      have hkI : (k : Int) < (σ.ps.length : Int) := by omega
      clear h hin h60 hp hlen h7
      go_enter Try.func48, Try.ntmps48
      go_wp2_with fail
      refine HH.out.mono ?_
      rintro e w1 ⟨rfl, rfl⟩
      go_wp2_with fail
      clear e60
      have q3 := fun w' (hk : KeepsBut [] w.drew w') => hk.cell (p := ⟨g, 3, none⟩) c3 (by simp)
      have q4 := fun w' (hk : KeepsBut [] w.drew w') => hk.cell (p := ⟨b, k * 2, none⟩) d0 (by simp)
      have q5 := fun w' (hk : KeepsBut [] w.drew w') => hk.cell (p := ⟨b, k * 2 + 1, none⟩) d1 (by simp)
      refine wp_region_mix3 (KeepsBut []) (KeepsBut.refl []) (KeepsBut.trans []) [13, 16] [(0, 0), (0, 1), (0, 2), (0, 3), (0, 5), (0, 6), (0, 7), (0, 9), (1, 4), (1, 8), (0, 10), (1, 11), (2, 12), (2, 13), (0, 14), (0, 15), (2, 16)] (by kernel_rfl) (by kernel_rfl) (fun d _ _ _ _ h => by cases d <;> exact h) ?_
      repeat (first
        | (refine mix3_free (v := ?_) rfl rfl ?_ (mix3_norm (a' := ?_) ?_ ?_)
           rotate_left
           focus (intro w'; go_simp; first | done | (with_reducible rfl))
           rotate_left
           focus (simp only [Act.put, List.getElem_toArray, List.getElem_cons_zero, List.getElem_cons_succ, List.setIfInBounds_toArray, List.set_cons_zero, List.set_cons_succ]; rfl))
        | (refine mix3_pure (v := ?_) rfl rfl ?_ (mix3_norm (a' := ?_) ?_ ?_)
           rotate_left
           focus (intro w' hR; go_simp; first | done | (with_reducible rfl))
           rotate_left
           focus (simp only [Act.put, List.getElem_toArray, List.getElem_cons_zero, List.getElem_cons_succ, List.setIfInBounds_toArray, List.set_cons_zero, List.set_cons_succ]; rfl))
        | (refine mix3_freeOff rfl rfl (mix3_norm (a' := ?_) ?_ ?_)
           rotate_left
           focus (simp only [Act.put, List.getElem_toArray, List.getElem_cons_zero, List.getElem_cons_succ, List.setIfInBounds_toArray, List.set_cons_zero, List.set_cons_succ]; rfl))
        | (refine mix3_off rfl rfl (mix3_norm (a' := ?_) ?_ ?_)
           rotate_left
           focus (simp only [Act.put, List.getElem_toArray, List.getElem_cons_zero, List.getElem_cons_succ, List.setIfInBounds_toArray, List.set_cons_zero, List.set_cons_succ]; rfl)))
      clear q3 q4 q5 c0 c1 c2' c3 f0 f1 f2 f3 d0 d1
      refine mix3_eff rfl ?_
      simp only [List.getElem_toArray, List.getElem_cons_zero, List.getElem_cons_succ]
      go_wp2_with fail
      refine mixQ3_normal (keeps_alloc_drew _ _) rfl ?_
      refine mix3_eff rfl ?_
      simp only [List.getElem_toArray, List.getElem_cons_zero, List.getElem_cons_succ]
      refine wpList_append_pk rfl (.tmp 24) (.tmp 32) rfl (some ⟨b, 0, none⟩) c σ.ps rfl (HN.out.2.1.chg (F := fun _ => False) (.of_below (((Below.refl w.heap.size w).alloc (Nat.le_refl _) _).drew)) (fun _ _ f => f)) (some ⟨w.heap.size, 0, none⟩) 1 [(p1, p2)] 1 rfl rfl (Reads.of_block (n := 1) (cs := #[.int .i64 p1, .string p2]) (heap_alloc_new _ _) rfl) Hlen.out ?_
      intro A1 c1 w3 hrow hc3 hblk
      have hc3 : Chg (fun i => blk (some ⟨b, 0, none⟩) = some i) w w3 := (Chg.of_below (F := fun i => blk (some ⟨b, 0, none⟩) = some i) (((Below.refl w.heap.size w).alloc (Nat.le_refl _) _).drew)).trans hc3 (fun _ _ h => h)
      have hblk : ∀ k, blk A1 = some k → blk (some ⟨b, 0, none⟩) = some k ∨ w.heap.size ≤ k := fun k hk => by
        rcases hblk k hk with h | h
        · exact .inl h
        · right; rw [h]; show w.heap.size ≤ (w.heap.push _).size; rw [Array.size_push]; omega
      have hlt : g < w.heap.size := HN.out.lt
      have hne : blk A1 = none ∨ blk A1 ≠ some g := .inr fun e => by
        rcases hblk g e with h | h
        · exact HN.out.2.2 h
        · omega
      have hfin := netGrow HN.out (Chg.refl _ _) HN.out.1 hrow hc3 hblk hne
      simp only [List.length_append, List.length_cons, List.length_nil, Nat.zero_add] at hfin
      obtain ⟨_, _, _, f3⟩ := (cells4 ((hc3.block g hlt HN.out.2.2).trans HN.out.1)).2
      obtain ⟨u3, c3⟩ : ∃ u, w3.cell? ⟨g, 3, none⟩ = some u := ⟨_, (cells4 ((hc3.block g hlt HN.out.2.2).trans HN.out.1)).1.2.2.2⟩
      have Hfin := Lib.hid hfin
      clear hrow hc3 hblk hlt hne hfin
      go_wp2_with fail
      refine mixQ3_last (by simp) rfl ?_
      repeat (first
        | (refine mix3_free (v := ?_) rfl rfl ?_ (mix3_norm (a' := ?_) ?_ ?_)
           rotate_left
           focus (intro w'; go_simp; first | done | (with_reducible rfl))
           rotate_left
           focus (simp only [Act.put, List.getElem_toArray, List.getElem_cons_zero, List.getElem_cons_succ, List.setIfInBounds_toArray, List.set_cons_zero, List.set_cons_succ]; rfl))
        | (refine mix3_pure (v := ?_) rfl rfl ?_ (mix3_norm (a' := ?_) ?_ ?_)
           rotate_left
           focus (intro w' hR; go_simp; first | done | (with_reducible rfl))
           rotate_left
           focus (simp only [Act.put, List.getElem_toArray, List.getElem_cons_zero, List.getElem_cons_succ, List.setIfInBounds_toArray, List.set_cons_zero, List.set_cons_succ]; rfl))
        | (refine mix3_freeOff rfl rfl (mix3_norm (a' := ?_) ?_ ?_)
           rotate_left
           focus (simp only [Act.put, List.getElem_toArray, List.getElem_cons_zero, List.getElem_cons_succ, List.setIfInBounds_toArray, List.set_cons_zero, List.set_cons_succ]; rfl))
        | (refine mix3_off rfl rfl (mix3_norm (a' := ?_) ?_ ?_)
           rotate_left
           focus (simp only [Act.put, List.getElem_toArray, List.getElem_cons_zero, List.getElem_cons_succ, List.setIfInBounds_toArray, List.set_cons_zero, List.set_cons_succ]; rfl)))
      refine mix3_eff rfl ?_
      simp only [List.getElem_toArray, List.getElem_cons_zero, List.getElem_cons_succ]
      go_wp2_with fail
      refine mixQ3_last (by simp) rfl ?_
      refine mix3_done ?_
      clear c3 f3
      generalize w3.setCell ⟨g, 3, none⟩ (.slice A1 (σ.ps.length + 1) c1) = w4 at Hfin ⊢
      obtain ⟨A4, c4, hN4, hk4, hC4⟩ := Hfin.out
      obtain ⟨⟨c0, _, _, _⟩, f0, _, _, _⟩ := hN4.cells
      simp only at c0
      have Hp := Lib.hid (show NetPost w g (some ⟨b, 0, none⟩) ⟨σ.s + 1, σ.c, σ.l, σ.ps ++ [(p1, p2)]⟩ (w4.setCell ⟨g, 0, none⟩ (.int .i64 (σ.s + 1))) from ⟨A4, c4, hN4.setS (σ.s + 1), hk4, hC4.set g 0 _ (fun _ => .inl rfl)⟩)
      clear hN4 hk4 hC4 Hfin
      go_wp2_with fail
      go_ret
      exact ⟨by rw [H.out.1]; rfl, by rw [H.out.2, Hpk.out]; exact Hp.out⟩
  · have H := Lib.hid (show twiceE σ i = 3 ∧ twiceN σ i = σ from ⟨by unfold twiceE; rw [if_neg hin], by unfold twiceN; rw [if_neg (fun h => hin h.1)]⟩)
    have Hp := Lib.hid (NetP.same (.refl _ _) h)
    rw [hasE_out hin] at HH
    clear h hok hin
    go_enter Try.func48, Try.ntmps48
    go_wp2_with fail
    refine HH.out.mono ?_
    rintro e w1 ⟨rfl, rfl⟩
    rw [show ((3 : Nat) : Int) = 3 from rfl]
    go_wp2_with fail
    go_ret
    exact ⟨by rw [H.out.1]; rfl, by rw [H.out.2]; exact Hp.out⟩
theorem netTwice_nil (w : World) (i : Int) : Calls Try.prog 48 #[.pointer none, .int .i64 i] w fun e w' => e = .returned (.int .i64 1) ∧ w = w' := by
  go_enter Try.func48, Try.ntmps48
  go_wp2_with fail
  refine (netHas_nil _ i).mono ?_
  rintro e w2 ⟨rfl, rfl⟩
  go_wp2_with fail
  go_ret
  exact ⟨rfl, rfl⟩
theorem netCut_nil (w : World) (i n : Int) : Calls Try.prog 49 #[.pointer none, .int .i64 i, .int .i64 n] w fun e w' => e = .returned (.int .i64 1) ∧ w = w' := by
  go_enter Try.func49, Try.ntmps49
  go_wp2_with fail
  refine (netHas_nil _ i).mono ?_
  rintro e w2 ⟨rfl, rfl⟩
  go_wp2_with fail
  go_ret
  exact ⟨rfl, rfl⟩
theorem netLose_nil (w : World) (i : Int) : Calls Try.prog 47 #[.pointer none, .int .i64 i] w fun e w' => e = .returned (.int .i64 1) ∧ w = w' := by
  go_enter Try.func47, Try.ntmps47
  go_wp2_with fail
  refine (netHas_nil _ i).mono ?_
  rintro e w2 ⟨rfl, rfl⟩
  go_wp2_with fail
  go_ret
  exact ⟨rfl, rfl⟩

/-! ### one is cut -/
theorem PRow.set1 {w : World} {b c : Nat} {ps : List (Int × ByteArray)} (h : PRow w (some ⟨b, 0, none⟩) c ps) (k : Nat) (hk : k < ps.length) (s : ByteArray) :
    PRow (w.setCell ⟨b, k * 2 + 1, none⟩ (.string s)) (some ⟨b, 0, none⟩) c (ps.set k (ps[k].1, s)) := by
  have h1 := (World.ownsRow.stored h (k * 2 + 1) (.string s)).1
  rw [pks_set1 ps k hk s] at h1
  unfold PRow
  rw [List.length_set]
  exact h1
theorem NetP.cutAt {w : World} {g b c : Nat} {σ : Nt} (h : NetP w g (some ⟨b, 0, none⟩) c σ) (hb : b ≠ g) (k : Nat) (hk : k < σ.ps.length) (s : ByteArray) :
    NetPost w g (some ⟨b, 0, none⟩) ⟨σ.s, σ.c, σ.l, σ.ps.set k (σ.ps[k].1, s)⟩ (w.setCell ⟨b, k * 2 + 1, none⟩ (.string s)) := by
  refine ⟨some ⟨b, 0, none⟩, c, ⟨?_, h.2.1.set1 k hk s, h.2.2⟩, fun _ hk => .inl hk, (Chg.refl _ _).set b _ _ (fun _ => .inr rfl)⟩
  rw [List.length_set]
  exact (heap_setCell_other w ⟨b, k * 2 + 1, none⟩ g _ (fun e => hb e.symm)).trans h.1

set_option maxHeartbeats 1000000 in
set_option maxRecDepth 100000 in
theorem netCut_any (w : World) (g : Nat) (A : Option Addr) (c : Nat) (σ : Nt) (h : NetP w g A c σ) (i n : Int) :
    Calls Try.prog 49 #[.pointer (some ⟨g, 0, none⟩), .int .i64 i, .int .i64 n] w fun e w' => e = .returned (.int .i64 (cutE σ i n : Nat)) ∧ NetPost w g A (cutN σ i n) w' := by
  have HH := Lib.hid (netHas_any w g A c σ h i)
  by_cases hin : inN σ i
  · rw [hasE_in hin] at HH
    obtain ⟨k, hk, rfl⟩ := inN_nat hin
    have hpk := pAt_in hk
    obtain ⟨b, rfl, hbl, hbg⟩ := h.row hk
    obtain ⟨d0, d1, f0, f1⟩ := h.2.1.cell k hk
    obtain ⟨⟨_, _, _, c3⟩, _⟩ := h.cells
    have hkI : (k : Int) < (σ.ps.length : Int) := by omega
    by_cases hn : n < 0 ∨ ((pAt σ k).2.size : Int) < n
    · have H := Lib.hid (show cutE σ k n = 4 ∧ cutN σ k n = σ from ⟨by unfold cutE; rw [if_pos hin, if_pos hn], by unfold cutN; rw [if_neg (fun h => h.2 hn)]⟩)
      have Hp := Lib.hid (NetP.same (.refl _ _) h)
      rw [hpk] at hn
      generalize σ.ps[k] = p at d0 d1 hn
      clear hpk h hin
      rcases hn with hn | hn
      · go_enter Try.func49, Try.ntmps49
        go_wp2_with fail
        refine HH.out.mono ?_
        rintro e w1 ⟨rfl, rfl⟩
        go_wp2_with fail
        go_ret
        exact ⟨by rw [H.out.1]; rfl, by rw [H.out.2]; exact Hp.out⟩
      · have hn0 : ¬ n < 0 := by omega
        go_enter Try.func49, Try.ntmps49
        go_wp2_with fail
        refine HH.out.mono ?_
        rintro e w1 ⟨rfl, rfl⟩
        go_wp2_with fail
        go_ret
        exact ⟨by rw [H.out.1]; rfl, by rw [H.out.2]; exact Hp.out⟩
    · have H := Lib.hid (show cutE σ k n = 0 ∧ cutN σ k n = ⟨σ.s, σ.c, σ.l, σ.ps.set k (σ.ps[k].1, cutS σ.ps[k].2 n.toNat)⟩ from ⟨by unfold cutE; rw [if_pos hin, if_neg hn], by unfold cutN; rw [if_pos ⟨hin, hn⟩, hpk, Int.toNat_natCast]⟩)
      have Hp := Lib.hid (h.cutAt hbg k hk (cutS σ.ps[k].2 n.toNat))
      rw [hpk] at hn
      have hn1 : 0 ≤ n := by omega
      have hn2 : n ≤ (σ.ps[k].2.size : Int) := by omega
      obtain ⟨n, rfl⟩ := Int.eq_ofNat_of_zero_le hn1
      rw [Int.toNat_natCast] at H Hp
      generalize σ.ps[k] = p at d0 d1 hn2 H Hp
      clear hpk h hin hn
      unfold cutS at Hp
      go_enter Try.func49, Try.ntmps49
      go_wp2_with fail
      refine HH.out.mono ?_
      rintro e w1 ⟨rfl, rfl⟩
      go_wp2_with fail
      go_ret
      exact ⟨by rw [H.out.1]; rfl, by rw [H.out.2]; exact Hp.out⟩
  · have H := Lib.hid (show cutE σ i n = 3 ∧ cutN σ i n = σ from ⟨by unfold cutE; rw [if_neg hin], by unfold cutN; rw [if_neg (fun h => hin h.1)]⟩)
    have Hp := Lib.hid (NetP.same (.refl _ _) h)
    rw [hasE_out hin] at HH
    clear h hin
    go_enter Try.func49, Try.ntmps49
    go_wp2_with fail
    refine HH.out.mono ?_
    rintro e w1 ⟨rfl, rfl⟩
    rw [show ((3 : Nat) : Int) = 3 from rfl]
    go_wp2_with fail
    go_ret
    exact ⟨by rw [H.out.1]; rfl, by rw [H.out.2]; exact Hp.out⟩
end Go.Proofs.Ytiolfnnkkflaiaa
