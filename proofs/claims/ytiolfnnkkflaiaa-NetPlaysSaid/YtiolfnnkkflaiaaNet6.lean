/- Nets: one comes, one is lost; another one. -/
import Derived.Test.YtiolfnnkkflaiaaNet5
open Go.RowKit
namespace Go.Proofs.Ytiolfnnkkflaiaa

theorem takeN_in {σ : Nt} {k : Nat} (hk : k < σ.ps.length) : takeN σ (k : Int) = ⟨σ.s, σ.c + 1, σ.l, σ.ps.eraseIdx k⟩ := by unfold takeN; rw [if_pos (show inN σ k by unfold inN; omega), Int.toNat_natCast]
theorem takeN_out {σ : Nt} {i : Int} (h : ¬ inN σ i) : takeN σ i = σ := by unfold takeN; rw [if_neg h]
theorem loseN_in {σ : Nt} {k : Nat} (hk : k < σ.ps.length) : loseN σ (k : Int) = ⟨σ.s, σ.c, σ.l + 1, σ.ps.eraseIdx k⟩ := by unfold loseN; rw [if_pos (show inN σ k by unfold inN; omega), Int.toNat_natCast]
theorem loseN_out {σ : Nt} {i : Int} (h : ¬ inN σ i) : loseN σ i = σ := by unfold loseN; rw [if_neg h]

set_option maxHeartbeats 1000000 in
set_option maxRecDepth 100000 in
theorem netLose_any (w : World) (g : Nat) (A : Option Addr) (c : Nat) (σ : Nt) (hok : σ.ok) (h : NetP w g A c σ) (i : Int) :
    Calls Try.prog 47 #[.pointer (some ⟨g, 0, none⟩), .int .i64 i] w fun e w' => e = .returned (.int .i64 (hasE σ i : Nat)) ∧ NetPost w g A (loseN σ i) w' := by
  have HH := Lib.hid (netHas_any w g A c σ h i)
  by_cases hin : inN σ i
  · rw [hasE_in hin] at HH
    have H := Lib.hid (hasE_in hin)
    obtain ⟨k, hk, rfl⟩ := inN_nat hin
    have H2 := Lib.hid (loseN_in hk)
    obtain ⟨b, rfl, hbl, hbg⟩ := h.row hk
    obtain ⟨⟨_, _, _, c3⟩, _, _, _, f3⟩ := h.cells
    obtain ⟨⟨h1, h2⟩, _, ⟨h5, h6⟩, h7⟩ := hok
    have Hdel := Lib.hid (delete_any w b c σ.ps k hk (by omega) h.2.1)
    have HN := Lib.hid h
    have hk100 : k ≤ 100 := by omega
    clear h hin hk h7 h1 h2
    go_enter Try.func47, Try.ntmps47
    go_wp2_with fail
    refine HH.out.mono ?_
    rintro e w1 ⟨rfl, rfl⟩
    go_wp2_with fail
    clear c3 f3
    refine Hdel.out.mono ?_
    rintro e w2 ⟨rfl, hrow, hchg⟩
    have hchg : Chg (fun i => blk (some ⟨b, 0, none⟩) = some i) w w2 := hchg.mono fun i _ e => by rw [e]; rfl
    have hfin := netGrow HN.out (Chg.refl _ _) HN.out.1 hrow hchg (fun _ hk => .inl hk) (.inr HN.out.2.2)
    obtain ⟨_, _, _, f3⟩ := (cells4 ((hchg.block g HN.out.lt HN.out.2.2).trans HN.out.1)).2
    obtain ⟨u3, c3⟩ : ∃ u, w2.cell? ⟨g, 3, none⟩ = some u := ⟨_, (cells4 ((hchg.block g HN.out.lt HN.out.2.2).trans HN.out.1)).1.2.2.2⟩
    obtain ⟨A4, c4, hN4, hk4, hC4⟩ := hfin
    obtain ⟨⟨_, _, q2, _⟩, _, _, f2, _⟩ := hN4.cells
    simp only at q2
    have Hp := Lib.hid (show NetPost w g (some ⟨b, 0, none⟩) ⟨σ.s, σ.c, σ.l + 1, σ.ps.eraseIdx k⟩ (_) from ⟨A4, c4, hN4.setL (σ.l + 1), hk4, hC4.set g 2 _ (fun _ => .inl rfl)⟩)
    clear hrow hchg hN4 hk4 hC4
    go_wp2_with fail
    go_ret
    exact ⟨by rw [H.out]; rfl, by rw [H2.out]; exact Hp.out⟩
  · have H := Lib.hid (hasE_out hin)
    have H2 := Lib.hid (loseN_out hin)
    have Hp := Lib.hid (NetP.same (.refl _ _) h)
    rw [hasE_out hin] at HH
    clear h hin hok
    go_enter Try.func47, Try.ntmps47
    go_wp2_with fail
    refine HH.out.mono ?_
    rintro e w1 ⟨rfl, rfl⟩
    rw [show ((3 : Nat) : Int) = 3 from rfl]
    go_wp2_with fail
    go_ret
    exact ⟨by rw [H.out]; rfl, by rw [H2.out]; exact Hp.out⟩

set_option maxHeartbeats 1000000 in
set_option maxRecDepth 100000 in
theorem netTake_any (w : World) (g : Nat) (A : Option Addr) (c : Nat) (σ : Nt) (hok : σ.ok) (h : NetP w g A c σ) (i : Int) :
    Calls Try.prog 45 #[.pointer (some ⟨g, 0, none⟩), .int .i64 i] w fun e w' => e = .returned (.tuple #[.agg #[.int .i64 (pAt σ i).1, .string (pAt σ i).2], .int .i64 (hasE σ i : Nat)]) ∧ NetPost w g A (takeN σ i) w' := by
  obtain ⟨hb1, hg1, hs1⟩ := alloc1 w #[.int .i64 0, .string ⟨#[]⟩] 70
  have hN1 := h.chg (F := fun _ => False) (.of_below hb1) (fun _ _ f => f)
  have HA := Lib.hid (netAt_any _ g A c σ hN1 i)
  generalize hpp : pAt σ i = p at HA
  have Hpp := Lib.hid hpp
  obtain ⟨p1, p2⟩ := p
  simp only at HA
  have Hlt := Lib.hid h.lt
  have HN := Lib.hid h
  have Hf := Lib.hid h.foot
  go_enter Try.func45, Try.ntmps45
  go_wp2_with fail
  have Hs1 := Lib.hid hs1
  have Hg1 := Lib.hid hg1
  have Hb1 := Lib.hid hb1
  have HN1 := Lib.hid hN1
  clear hb1 hg1 hs1 hN1 h hpp
  generalize w.alloc (.cells #[.int .i64 0, .string ⟨#[]⟩] 70) = w1 at HA Hs1 Hg1 Hb1 HN1 ⊢
  refine HA.out.mono ?_
  rintro e w2 ⟨rfl, hb2⟩
  obtain ⟨hb3, hg3, hs3⟩ := alloc1 w2 #[.int .i64 p1, .string p2] 70
  have hq := hb2.trans (hb3.mono (B' := w1.heap.size) hb2.size)
  have HN3 := Lib.hid (HN1.out.chg (F := fun _ => False) (.of_below hq) (fun _ _ f => f))
  have G1 := Lib.hid ((hq.block w.heap.size (by have := Hs1.out; omega)).trans Hg1.out)
  have HB3 := Lib.hid (Hb1.out.trans (hq.mono (B' := w.heap.size) Hb1.out.size))
  have Hz := Lib.hid (show w.heap.size < w2.heap.size by have := Hs1.out; have := hb2.size; omega)
  have G3 := Lib.hid hg3
  have hgs : g < w.heap.size := Hlt.out
  by_cases hin : inN σ i
  · rw [hasE_in hin]
    have H := Lib.hid (hasE_in hin)
    obtain ⟨k, hk, rfl⟩ := inN_nat hin
    have H2 := Lib.hid (takeN_in hk)
    obtain ⟨b, rfl, hbl, hbg⟩ := HN.out.row hk
    obtain ⟨⟨_, _, _, c3⟩, _, _, _, f3⟩ := HN3.out.cells
    obtain ⟨_, ⟨h3, h4⟩, _, h7⟩ := hok
    have Hdel := Lib.hid (delete_any _ b c σ.ps k hk (by omega) HN3.out.2.1)
    have hk100 : k ≤ 100 := by omega
    clear hin hk h7 hb3 hg3 hs3 hq hb2
    rw [show ((0 : Nat) : Int) = 0 from rfl]
    go_wp2_with fail
    clear c3 f3
    refine Hdel.out.mono ?_
    rintro e w4 ⟨rfl, hrow, hchg⟩
    have hchg : Chg (fun i => blk (some ⟨b, 0, none⟩) = some i) _ w4 := hchg.mono fun i _ e => by rw [e]; rfl
    have hgw : g < (w2.alloc (.cells #[.int .i64 p1, .string p2] 70)).heap.size := HN3.out.lt
    have k4 := cells4 ((hchg.block g hgw HN.out.2.2).trans HN3.out.1)
    obtain ⟨_, _, _, f3⟩ := k4.2
    obtain ⟨u3, c3⟩ : ∃ u, w4.cell? ⟨g, 3, none⟩ = some u := ⟨_, k4.1.2.2.2⟩
    have hbw : b < w.heap.size := hbl
    have hne1 : ¬ blk (some (⟨b, 0, none⟩ : Addr)) = some w.heap.size := fun e => by
      have : b = w.heap.size := Option.some.inj e
      omega
    have hne2 : ¬ blk (some (⟨b, 0, none⟩ : Addr)) = some w2.heap.size := fun e => by
      have : b = w2.heap.size := Option.some.inj e
      have := Hz.out; omega
    have hsz3 : w2.heap.size < (w2.alloc (.cells #[.int .i64 p1, .string p2] 70)).heap.size := by rw [size_alloc]; omega
    have g1 := (hchg.block w.heap.size (by have := Hz.out; omega) hne1).trans G1.out
    have g3 := (hchg.block w2.heap.size hsz3 hne2).trans G3.out
    have g1 := (heap_setCell_other w4 ⟨g, 3, none⟩ w.heap.size (.slice (some ⟨b, 0, none⟩) (σ.ps.eraseIdx k).length c) (by simp; omega)).trans g1
    have g3 := (heap_setCell_other w4 ⟨g, 3, none⟩ w2.heap.size (.slice (some ⟨b, 0, none⟩) (σ.ps.eraseIdx k).length c) (by have := Hz.out; simp; omega)).trans g3
    have hN5 : NetP (w4.setCell ⟨g, 3, none⟩ (.slice (some ⟨b, 0, none⟩) (σ.ps.eraseIdx k).length c)) g (some ⟨b, 0, none⟩) c ⟨σ.s, σ.c, σ.l, σ.ps.eraseIdx k⟩ := netP_setR ((hchg.block g hgw HN.out.2.2).trans HN3.out.1) hrow HN.out.2.2
    have hC5 : Chg (Foot g (some ⟨b, 0, none⟩)) w (w4.setCell ⟨g, 3, none⟩ (.slice (some ⟨b, 0, none⟩) (σ.ps.eraseIdx k).length c)) := ((Chg.of_below HB3.out).trans hchg (fun _ _ hi => .inr hi)).set g 3 _ (fun _ => .inl rfl)
    obtain ⟨⟨_, q1, _, _⟩, _, f1, _, _⟩ := hN5.cells
    simp only at q1
    have hN6 := hN5.setC (σ.c + 1)
    have hC6 := hC5.set g 1 (.int .i64 (σ.c + 1)) (fun _ => .inl rfl)
    have g1 := (heap_setCell_other _ ⟨g, 1, none⟩ w.heap.size (.int .i64 (σ.c + 1)) (by simp; omega)).trans g1
    have g3 := (heap_setCell_other _ ⟨g, 1, none⟩ w2.heap.size (.int .i64 (σ.c + 1)) (by have := Hz.out; simp; omega)).trans g3
    obtain ⟨r0, r1, s0, s1⟩ := cells2 g1
    obtain ⟨v0, v1, _, _⟩ := cells2 g3
    have E := Lib.hid (set2 g1 (.int .i64 p1) (.string p2))
    have hN7 := hN6.chg (F := fun i => i = w.heap.size) (((Chg.refl (fun i => i = w.heap.size) _).set w.heap.size 0 (.int .i64 p1) (fun _ => rfl)).set w.heap.size 1 (.string p2) (fun _ => rfl)) (fun i hi e => by
      rcases hi with rfl | hi
      · omega
      · exact hne1 (e ▸ hi))
    have Hp := Lib.hid (show NetPost w g (some ⟨b, 0, none⟩) ⟨σ.s, σ.c + 1, σ.l, σ.ps.eraseIdx k⟩ _ from ⟨_, _, hN7, fun _ hk => .inl hk, (hC6.set w.heap.size 0 (.int .i64 p1) (fun h => absurd h (Nat.lt_irrefl _))).set w.heap.size 1 (.string p2) (fun h => absurd h (Nat.lt_irrefl _))⟩)
    clear hN5 hC5 hN6 hC6 hN7 hrow hchg hne1 hne2 hsz3 k4 hgw hbw hbl g1 g3
    go_wp2_with fail
    try simp only [Exit.inBlock, Exit.then]
    exact bodyPost_ret (results_cell_tmp_row rfl _ _ w.heap.size _ _ _ _ rfl E.out Try.underlying70 rfl (by kernel_rfl)) rfl ⟨by rw [H.out]; rfl, by rw [H2.out]; exact Hp.out⟩
  · rw [hasE_out hin]
    have H := Lib.hid (hasE_out hin)
    have H2 := Lib.hid (takeN_out hin)
    obtain ⟨r0, r1, s0, s1⟩ := cells2 G1.out
    obtain ⟨v0, v1, _, _⟩ := cells2 G3.out
    have E := Lib.hid (set2 G1.out (.int .i64 p1) (.string p2))
    have hN7 := HN3.out.chg (F := fun i => i = w.heap.size) (((Chg.refl (fun i => i = w.heap.size) _).set w.heap.size 0 (.int .i64 p1) (fun _ => rfl)).set w.heap.size 1 (.string p2) (fun _ => rfl)) (fun i hi e => by
      have := Hf.out i hi
      omega)
    have Hp := Lib.hid (show NetPost w g A σ _ from ⟨_, _, hN7, fun _ hk => .inl hk, ((Chg.of_below HB3.out).set w.heap.size 0 (.int .i64 p1) (fun h => absurd h (Nat.lt_irrefl _))).set w.heap.size 1 (.string p2) (fun h => absurd h (Nat.lt_irrefl _))⟩)
    clear hin hb3 hg3 hs3 hq hb2 hN7 hok
    rw [show ((3 : Nat) : Int) = 3 from rfl]
    go_wp2_with fail
    try simp only [Exit.inBlock, Exit.then]
    exact bodyPost_ret (results_cell_tmp_row rfl _ _ w.heap.size _ _ _ _ rfl E.out Try.underlying70 rfl (by kernel_rfl)) rfl ⟨by rw [H.out]; rfl, by rw [H2.out]; exact Hp.out⟩
theorem netTake_nil (w : World) (i : Int) :
    Calls Try.prog 45 #[.pointer none, .int .i64 i] w fun e w' => e = .returned (.tuple #[.agg #[.int .i64 0, .string ⟨#[]⟩], .int .i64 1]) ∧ Below w.heap.size w w' := by
  obtain ⟨hb1, hg1, hs1⟩ := alloc1 w #[.int .i64 0, .string ⟨#[]⟩] 70
  go_enter Try.func45, Try.ntmps45
  go_wp2_with fail
  have G1 := Lib.hid hg1
  have Hb1 := Lib.hid hb1
  generalize w.alloc (.cells #[.int .i64 0, .string ⟨#[]⟩] 70) = w1 at G1 Hb1 hs1 ⊢
  refine (netAt_nil w1 i).mono ?_
  rintro e w2 ⟨rfl, hb2⟩
  obtain ⟨hb3, hg3, hs3⟩ := alloc1 w2 #[.int .i64 0, .string ⟨#[]⟩] 70
  have hq := hb2.trans (hb3.mono (B' := w1.heap.size) hb2.size)
  have G1 := Lib.hid ((hq.block w.heap.size (by omega)).trans G1.out)
  have HB3 := Lib.hid (Hb1.out.trans (hq.mono (B' := w.heap.size) Hb1.out.size))
  obtain ⟨r0, r1, s0, s1⟩ := cells2 G1.out
  obtain ⟨v0, v1, _, _⟩ := cells2 hg3
  have E := Lib.hid (set2 G1.out (.int .i64 0) (.string ⟨#[]⟩))
  clear hb1 hg1 hs1 hb2 hb3 hg3 hs3 hq
  go_wp2_with fail
  try simp only [Exit.inBlock, Exit.then]
  exact bodyPost_ret (results_cell_tmp_row rfl _ _ w.heap.size _ _ _ _ rfl E.out Try.underlying70 rfl (by kernel_rfl)) rfl ⟨rfl, below_set2 HB3.out (Nat.le_refl _) _ _⟩
theorem netSend_nil (w : World) (to : Int) (v : Value) : Calls Try.prog 46 #[.pointer none, .int .i64 to, v] w fun e w' => e = .returned (.int .i64 1) ∧ w = w' := by
  go_enter Try.func46, Try.ntmps46
  go_wp2
  go_ret
  exact ⟨rfl, rfl⟩
theorem netCopy_nil (w : World) : Calls Try.prog 41 #[.pointer none] w fun e w' => e = .returned (.pointer none) ∧ w = w' := by
  go_enter Try.func41, Try.ntmps41
  go_wp2
  go_ret
  exact ⟨rfl, rfl⟩
end Go.Proofs.Ytiolfnnkkflaiaa
