/- The document's nets: one is there no more. -/
import Derived.Test.YtiolfnnkkflaiaaRNet1
open Go.RowKit
namespace Go.Proofs.Ytiolfnnkkflaiaa

/-- The slices that cut one packet out. -/
theorem cuts_pk (w : World) (b c : Nat) (ps : List (Int × ByteArray)) (k : Nat) (hk : k < ps.length) (h : PRow w (some ⟨b, 0, none⟩) c ps) :
    (∀ W : World, (Instr.slice 45 (.slice (some ⟨b, 0, none⟩) ps.length c) none (some (.int .i64 (k : Int))) none).run Try.prog W = .ok (.slice (some ⟨b, 0, none⟩) k c) W) ∧
    ∃ A' : Option Addr, (∀ W : World, (Instr.slice 45 (.slice (some ⟨b, 0, none⟩) ps.length c) (some (.int .i64 ((k : Int) + 1))) none none).run Try.prog W = .ok (.slice A' (ps.length - (k + 1)) (c - (k + 1))) W) ∧
      Reads w 2 (some ⟨b, 0, none⟩) k (pks (ps.take k)) ∧ Reads w 2 A' (ps.length - (k + 1)) (pks (ps.drop (k + 1))) := by
  have hcap := h.cap
  obtain ⟨i0, hi, hz0, hz1, hz2⟩ := info_parts info_pk
  have hel : Try.prog.elem 45 = 70 := by simp [Program.elem, Try.underlying45]
  have hu : Try.prog.underlying 45 = some (.slice (Try.prog.elem 45)) := by rw [hel]; exact Try.underlying45
  have s2 := cut_to (P := Try.prog) 45 70 Try.underlying45 hi 2 (some ⟨b, 0, none⟩) ps.length c k (by omega) hcap
  refine ⟨s2.1, if c = k + 1 then some ⟨b, 0, none⟩ else (some ⟨b, 0, none⟩ : Option Addr).map (·.add ((k + 1) * 2)), fun W => ?_, ?_, ?_⟩
  · have e : ((k : Int) + 1).toNat = k + 1 := by omega
    rw [run_slice_l W 45 _ _ c hu .i64 ((k : Int) + 1) (by omega) (by omega), hel, e]
    simp [sizeOf, typeInfo, hi, hz1, sliced, Result.andThen]
  · have := s2.2 w _ h.reads
    rw [pks_take] at this
    exact this
  · have := h.reads.drop_ (lo := k + 1) (by omega) hcap
    rw [pks_drop] at this
    exact this

set_option maxHeartbeats 1000000 in
set_option maxRecDepth 100000 in
theorem refOff_any (w : World) (g : Nat) (A : Option Addr) (c : Nat) (σ : Nt) (hok : σ.ok) (h : NetR w g A c σ) (k : Nat) (hk : k < σ.ps.length) :
    Calls Try.prog 91 #[.pointer (some ⟨g, 0, none⟩), .int .i64 (k : Int)] w fun e w' => e = .returned (.tuple #[]) ∧ NetRPost w g A ⟨σ.s, σ.c, σ.l, σ.ps.eraseIdx k⟩ w' := by
  obtain ⟨b, rfl, hbl, hbg⟩ := h.row hk
  obtain ⟨s2, A', s3, hr1, hr2⟩ := cuts_pk w b c σ.ps k hk h.2.1
  obtain ⟨⟨c0, _, _, _⟩, _⟩ := h.cells
  have h60 := hok.2.2.2
  have he : σ.ps.eraseIdx k = σ.ps.take k ++ σ.ps.drop (k + 1) := List.eraseIdx_eq_take_drop_succ ..
  obtain ⟨q, hq⟩ : ∃ q, q = σ.ps.take k := ⟨_, rfl⟩
  obtain ⟨r, hr⟩ : ∃ r, r = σ.ps.drop (k + 1) := ⟨_, rfl⟩
  rw [← hq, ← hr] at he
  rw [← hq] at hr1
  rw [← hr] at hr2
  have hql : q.length = k := by rw [hq, List.length_take]; omega
  have hrl : r.length = σ.ps.length - (k + 1) := by rw [hr, List.length_drop]
  have He := Lib.hid he
  have Hr1 := Lib.hid hr1
  have Hr2 := Lib.hid hr2
  have Hq := Lib.hid hql
  have Hl := Lib.hid hrl
  have HN := Lib.hid h
  have Hlt := Lib.hid h.lt
  have Hlen := Lib.hid (show q.length + r.length ≤ 100000 by omega)
  have hk100 : k ≤ 100 := by omega
  clear he hr1 hr2 hql hrl h hq hr hok h60 hbl
  go_enter Try.func91, Try.ntmps91
  go_wp2_with (at_builtin; refine wpList_append_pk rfl (.tmp 5) (.tmp 11) rfl none 0 [] rfl (PRow.nil _) (some ⟨b, 0, none⟩) c q k Hq.out rfl Hr1.out (by simp; omega) ?_)
  intro A1 c1 w1 hrow hchg hblk
  have hb1 : Below w.heap.size w w1 := hchg.below (fun i _ e => by simp [blk] at e) (Nat.le_refl _)
  have hN1 := HN.out.chg hchg (fun i _ e => by simp [blk] at e)
  obtain ⟨⟨c0, _, _, _⟩, _⟩ := hN1.cells
  have Hk1 := Lib.hid (show ∀ k, blk A1 = some k → w.heap.size ≤ k from fun k hk => by
    rcases hblk k hk with h | h
    · simp [blk] at h
    · omega)
  have Hrow := Lib.hid hrow
  have Hr3 := Lib.hid (Hr2.out.below hb1)
  have HN1 := Lib.hid hN1
  have Hb1 := Lib.hid hb1
  clear hrow hchg hblk hN1 hb1 Hr2 Hr1
  go_wp2_with (at_builtin; refine wpList_append_pk rfl (.tmp 14) (.tmp 21) rfl A1 c1 q rfl Hrow.out A' (c - (k + 1)) r (σ.ps.length - (k + 1)) Hl.out rfl Hr3.out (by have := Hl.out; have := Hlen.out; omega) ?_)
  intro A2 c2 w2 hrow hchg hblk
  have hlt := Hlt.out
  have g2 := (hchg.block g HN1.out.lt (fun e => by have := Hk1.out g e; omega)).trans HN1.out.1
  have hC : Chg (Foot g (some ⟨b, 0, none⟩)) w w2 := (Chg.of_below Hb1.out).trans hchg (fun i hi e => by have := Hk1.out i e; omega)
  have hk2 : ∀ k, blk A2 = some k → w.heap.size ≤ k := fun k hk => by
    rcases hblk k hk with h | h
    · exact Hk1.out k h
    · have := Hb1.out.size; omega
  have hR := netR_setR g2 hrow (fun e => by have := hk2 g e; omega)
  rw [List.length_append] at hR
  have Hfin := Lib.hid (show NetRPost w g (some ⟨b, 0, none⟩) ⟨σ.s, σ.c, σ.l, q ++ r⟩ _ from ⟨A2, c2, hR, fun k hk => .inr (hk2 k hk), hC.set g 0 _ (fun _ => .inl rfl)⟩)
  obtain ⟨f3, _, _, _⟩ := (cells4 g2).2
  obtain ⟨u3, c3⟩ : ∃ u, w2.cell? ⟨g, 0, none⟩ = some u := ⟨_, (cells4 g2).1.1⟩
  clear hrow hchg hblk hlt g2 hC hk2 hR s2 s3
  go_wp2_with fail
  go_end0
  exact ⟨rfl, by rw [He.out]; exact Hfin.out⟩

set_option maxHeartbeats 1000000 in
set_option maxRecDepth 100000 in
theorem refLose_any (w : World) (g : Nat) (A : Option Addr) (c : Nat) (σ : Nt) (hok : σ.ok) (h : NetR w g A c σ) (i : Int) :
    Calls Try.prog 72 #[.pointer (some ⟨g, 0, none⟩), .int .i64 i] w fun e w' => e = .returned (.int .i64 (hasE σ i : Nat)) ∧ NetRPost w g A (loseN σ i) w' := by
  have HH := Lib.hid (refIn_any w g A c σ h i)
  by_cases hin : inN σ i
  · rw [decide_eq_true hin] at HH
    have H := Lib.hid (hasE_in hin)
    obtain ⟨k, hk, rfl⟩ := inN_nat hin
    have H2 := Lib.hid (loseN_in hk)
    have HO := Lib.hid (refOff_any w g A c σ hok h k hk)
    obtain ⟨_, _, ⟨h5, h6⟩, h7⟩ := hok
    clear h hin hk h7
    go_enter Try.func72, Try.ntmps72
    go_wp2_with fail
    refine HH.out.mono ?_
    rintro e w1 ⟨rfl, rfl⟩
    go_wp2_with fail
    refine HO.out.mono ?_
    rintro e w2 ⟨rfl, A4, c4, hN4, hk4, hC4⟩
    obtain ⟨⟨_, _, _, q2⟩, _, _, _, f2⟩ := hN4.cells
    simp only at q2
    have Hp := Lib.hid (show NetRPost w g A ⟨σ.s, σ.c, σ.l + 1, σ.ps.eraseIdx k⟩ (_) from ⟨A4, c4, hN4.setL (σ.l + 1), hk4, hC4.set g 3 _ (fun _ => .inl rfl)⟩)
    clear hN4 hk4 hC4
    go_wp2_with fail
    go_ret
    exact ⟨by rw [H.out]; rfl, by rw [H2.out]; exact Hp.out⟩
  · have H := Lib.hid (hasE_out hin)
    have H2 := Lib.hid (loseN_out hin)
    have Hp := Lib.hid (NetR.same (.refl _ _) h)
    rw [decide_eq_false hin] at HH
    clear h hin hok
    go_enter Try.func72, Try.ntmps72
    go_wp2_with fail
    refine HH.out.mono ?_
    rintro e w1 ⟨rfl, rfl⟩
    go_wp2_with fail
    go_ret
    exact ⟨by rw [H.out]; rfl, by rw [H2.out]; exact Hp.out⟩

set_option maxHeartbeats 1000000 in
set_option maxRecDepth 100000 in
theorem refTake_any (w : World) (g : Nat) (A : Option Addr) (c : Nat) (σ : Nt) (hok : σ.ok) (h : NetR w g A c σ) (i : Int) :
    Calls Try.prog 71 #[.pointer (some ⟨g, 0, none⟩), .int .i64 i] w fun e w' => e = .returned (.tuple #[.agg #[.int .i64 (pAt σ i).1, .string (pAt σ i).2], .int .i64 (hasE σ i : Nat)]) ∧ NetRPost w g A (takeN σ i) w' := by
  obtain ⟨hb1, hg1, hs1⟩ := alloc1 w #[.int .i64 0, .string ⟨#[]⟩] 70
  have hN1 := h.chg (F := fun _ => False) (.of_below hb1) (fun _ _ f => f)
  have HA := Lib.hid (refAt_any _ g A c σ hN1 i)
  generalize hpp : pAt σ i = p at HA
  obtain ⟨p1, p2⟩ := p
  simp only at HA
  have Hpp := Lib.hid hpp
  have Hlt := Lib.hid h.lt
  have HN := Lib.hid h
  have Hf := Lib.hid h.foot
  go_enter Try.func71, Try.ntmps71
  go_wp2_with fail
  have Hs1 := Lib.hid hs1
  have Hg1 := Lib.hid hg1
  have Hb1 := Lib.hid hb1
  have HN1 := Lib.hid hN1
  clear hb1 hg1 hs1 hN1 h hpp
  generalize w.alloc (.cells #[.int .i64 0, .string ⟨#[]⟩] 70) = w1 at HA Hs1 Hg1 Hb1 HN1 ⊢
  refine HA.out.mono ?_
  rintro e w2 ⟨rfl, hb2⟩
  obtain ⟨hb3, hg3, hs3⟩ := alloc1 w2 #[.int .i64 p1, .string p2] 70
  have hq := hb2.trans (hb3.mono (B' := w1.heap.size) hb2.size)
  have HN3 := Lib.hid (HN1.out.chg (F := fun _ => False) (.of_below hq) (fun _ _ f => f))
  have G1 := Lib.hid ((hq.block w.heap.size (by have := Hs1.out; omega)).trans Hg1.out)
  have HB3 := Lib.hid (Hb1.out.trans (hq.mono (B' := w.heap.size) Hb1.out.size))
  have Hz := Lib.hid (show w.heap.size < w2.heap.size by have := Hs1.out; have := hb2.size; omega)
  have G3 := Lib.hid hg3
  have hgs : g < w.heap.size := Hlt.out
  by_cases hin : inN σ i
  · rw [hasE_in hin]
    have H := Lib.hid (hasE_in hin)
    obtain ⟨k, hk, rfl⟩ := inN_nat hin
    have H2 := Lib.hid (takeN_in hk)
    have HO := Lib.hid (refOff_any _ g A c σ hok HN3.out k hk)
    obtain ⟨_, ⟨h3, h4⟩, _, h7⟩ := hok
    clear hin hk h7 hb3 hg3 hs3 hq hb2
    rw [show ((0 : Nat) : Int) = 0 from rfl]
    go_wp2_with fail
    refine HO.out.mono ?_
    rintro e w4 ⟨rfl, A4, c4, hN5, hk4, hC4⟩
    have hC4 := hC4
    have hsz3 : w2.heap.size < (w2.alloc (.cells #[.int .i64 p1, .string p2] 70)).heap.size := by rw [size_alloc]; omega
    have hfoot := Hf.out
    have g1 := (hC4.block w.heap.size (by have := Hz.out; omega) (fun e => by have := hfoot _ e; omega)).trans G1.out
    have g3 := (hC4.block w2.heap.size hsz3 (fun e => by have := hfoot _ e; have := Hz.out; omega)).trans G3.out
    have hC5 : Chg (Foot g A) w w4 := (Chg.of_below HB3.out).trans hC4 (fun _ _ hi => hi)
    obtain ⟨⟨_, _, q1, _⟩, _, _, f1, _⟩ := hN5.cells
    simp only at q1
    have hN6 := hN5.setC (σ.c + 1)
    have hC6 := hC5.set g 2 (.int .i64 (σ.c + 1)) (fun _ => .inl rfl)
    have g1 := (heap_setCell_other _ ⟨g, 2, none⟩ w.heap.size (.int .i64 (σ.c + 1)) (by simp; omega)).trans g1
    have g3 := (heap_setCell_other _ ⟨g, 2, none⟩ w2.heap.size (.int .i64 (σ.c + 1)) (by have := Hz.out; simp; omega)).trans g3
    obtain ⟨r0, r1, s0, s1⟩ := cells2 g1
    obtain ⟨v0, v1, _, _⟩ := cells2 g3
    have E := Lib.hid (set2 g1 (.int .i64 p1) (.string p2))
    have hfresh : ∀ i, Foot g A4 i → i ≠ w.heap.size := fun i hi e => by
      rcases hi with hi | hi
      · omega
      · rcases hk4 i hi with h | h
        · have := hfoot i (.inr h); omega
        · have := Hz.out; omega
    have hN7 := hN6.chg (F := fun i => i = w.heap.size) (((Chg.refl (fun i => i = w.heap.size) _).set w.heap.size 0 (.int .i64 p1) (fun _ => rfl)).set w.heap.size 1 (.string p2) (fun _ => rfl)) (fun i hi e => hfresh i hi e)
    have Hp := Lib.hid (show NetRPost w g A ⟨σ.s, σ.c + 1, σ.l, σ.ps.eraseIdx k⟩ _ from ⟨_, _, hN7, fun k hk => by
      rcases hk4 k hk with h | h
      · exact .inl h
      · right; have := Hz.out; omega, (hC6.set w.heap.size 0 (.int .i64 p1) (fun h => absurd h (Nat.lt_irrefl _))).set w.heap.size 1 (.string p2) (fun h => absurd h (Nat.lt_irrefl _))⟩)
    clear hC4 hN5 hC5 hN6 hC6 hN7 hk4 hfresh hfoot hsz3 g1 g3
    go_wp2_with fail
    try simp only [Exit.inBlock, Exit.then]
    exact bodyPost_ret (results_cell_tmp_row rfl _ _ w.heap.size _ _ _ _ rfl E.out Try.underlying70 rfl (by kernel_rfl)) rfl ⟨by rw [H.out]; rfl, by rw [H2.out]; exact Hp.out⟩
  · rw [hasE_out hin]
    have H := Lib.hid (hasE_out hin)
    have H2 := Lib.hid (takeN_out hin)
    obtain ⟨r0, r1, s0, s1⟩ := cells2 G1.out
    obtain ⟨v0, v1, _, _⟩ := cells2 G3.out
    have E := Lib.hid (set2 G1.out (.int .i64 p1) (.string p2))
    have hN7 := HN3.out.chg (F := fun i => i = w.heap.size) (((Chg.refl (fun i => i = w.heap.size) _).set w.heap.size 0 (.int .i64 p1) (fun _ => rfl)).set w.heap.size 1 (.string p2) (fun _ => rfl)) (fun i hi e => by
      have := Hf.out i hi
      omega)
    have Hp := Lib.hid (show NetRPost w g A σ _ from ⟨_, _, hN7, fun _ hk => .inl hk, ((Chg.of_below HB3.out).set w.heap.size 0 (.int .i64 p1) (fun h => absurd h (Nat.lt_irrefl _))).set w.heap.size 1 (.string p2) (fun h => absurd h (Nat.lt_irrefl _))⟩)
    clear hin hb3 hg3 hs3 hq hb2 hN7 hok
    rw [show ((3 : Nat) : Int) = 3 from rfl]
    go_wp2_with fail
    try simp only [Exit.inBlock, Exit.then]
    exact bodyPost_ret (results_cell_tmp_row rfl _ _ w.heap.size _ _ _ _ rfl E.out Try.underlying70 rfl (by kernel_rfl)) rfl ⟨by rw [H.out]; rfl, by rw [H2.out]; exact Hp.out⟩
end Go.Proofs.Ytiolfnnkkflaiaa
