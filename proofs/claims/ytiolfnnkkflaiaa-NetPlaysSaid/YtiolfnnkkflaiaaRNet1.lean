/- The document's nets: what they hold, and the small methods. -/
import Derived.Test.YtiolfnnkkflaiaaNet8
open Go.RowKit
namespace Go.Proofs.Ytiolfnnkkflaiaa

/-- Block g is a net of the document's. -/
def NetR (w : World) (g : Nat) (A : Option Addr) (c : Nat) (σ : Nt) : Prop :=
  w.heap[g]? = some (.cells #[.slice A σ.ps.length c, .int .i64 σ.s, .int .i64 σ.c, .int .i64 σ.l] 47 (0, 0)) ∧ PRow w A c σ.ps ∧ blk A ≠ some g
/-- What a method leaves. -/
def NetRPost (w : World) (g : Nat) (A : Option Addr) (σ : Nt) (w' : World) : Prop :=
  ∃ A' c', NetR w' g A' c' σ ∧ (∀ k, blk A' = some k → blk A = some k ∨ w.heap.size ≤ k) ∧ Chg (Foot g A) w w'
section
variable {w w1 : World} {g : Nat} {A : Option Addr} {c : Nat} {σ : Nt}
theorem NetR.same (hc : Chg (Foot g A) w w1) (h1 : NetR w1 g A c σ) : NetRPost w g A σ w1 := ⟨A, c, h1, fun _ hk => .inl hk, hc⟩
theorem NetR.lt (h : NetR w g A c σ) : g < w.heap.size := (Array.getElem?_eq_some_iff.1 h.1).1
theorem NetR.foot (h : NetR w g A c σ) : ∀ i, Foot g A i → i < w.heap.size := fun i hi => by
  rcases hi with rfl | hi
  · exact h.lt
  · exact h.2.1.lt hi
theorem NetR.chg {F : Nat → Prop} (h : NetR w g A c σ) (hc : Chg F w w1) (hF : ∀ i, Foot g A i → ¬ F i) : NetR w1 g A c σ :=
  ⟨(hc.block g h.lt (hF g (.inl rfl))).trans h.1, h.2.1.chg hc (fun k hk => hF k (.inr hk)), h.2.2⟩
theorem NetR.cells (h : NetR w g A c σ) :
    (w.cell? ⟨g, 0, none⟩ = some (.slice A σ.ps.length c) ∧ w.cell? ⟨g, 1, none⟩ = some (.int .i64 σ.s) ∧ w.cell? ⟨g, 2, none⟩ = some (.int .i64 σ.c) ∧ w.cell? ⟨g, 3, none⟩ = some (.int .i64 σ.l)) ∧
      w.frozen? ⟨g, 0, none⟩ = false ∧ w.frozen? ⟨g, 1, none⟩ = false ∧ w.frozen? ⟨g, 2, none⟩ = false ∧ w.frozen? ⟨g, 3, none⟩ = false := cells4 h.1
theorem NetR.setS (h : NetR w g A c σ) (x : Int) : NetR (w.setCell ⟨g, 1, none⟩ (.int .i64 x)) g A c ⟨x, σ.c, σ.l, σ.ps⟩ :=
  ⟨heap_setCell_same w g 1 _ _ _ h.1, h.2.1.chg (F := fun i => i = g) ((Chg.refl _ _).set g 1 _ (fun _ => rfl)) (fun _ hk e => h.2.2 (e ▸ hk)), h.2.2⟩
theorem NetR.setC (h : NetR w g A c σ) (x : Int) : NetR (w.setCell ⟨g, 2, none⟩ (.int .i64 x)) g A c ⟨σ.s, x, σ.l, σ.ps⟩ :=
  ⟨heap_setCell_same w g 2 _ _ _ h.1, h.2.1.chg (F := fun i => i = g) ((Chg.refl _ _).set g 2 _ (fun _ => rfl)) (fun _ hk e => h.2.2 (e ▸ hk)), h.2.2⟩
theorem NetR.setL (h : NetR w g A c σ) (x : Int) : NetR (w.setCell ⟨g, 3, none⟩ (.int .i64 x)) g A c ⟨σ.s, σ.c, x, σ.ps⟩ :=
  ⟨heap_setCell_same w g 3 _ _ _ h.1, h.2.1.chg (F := fun i => i = g) ((Chg.refl _ _).set g 3 _ (fun _ => rfl)) (fun _ hk e => h.2.2 (e ▸ hk)), h.2.2⟩
theorem netR_setR {w : World} {g : Nat} {a b l : Int} {v : Value} {A : Option Addr} {c : Nat} {ps : List (Int × ByteArray)} (h : w.heap[g]? = some (.cells #[v, .int .i64 a, .int .i64 b, .int .i64 l] 47 (0, 0))) (hr : PRow w A c ps) (hne : blk A ≠ some g) :
    NetR (w.setCell ⟨g, 0, none⟩ (.slice A ps.length c)) g A c ⟨a, b, l, ps⟩ :=
  ⟨heap_setCell_same w g 0 _ _ _ h, hr.chg (F := fun i => i = g) ((Chg.refl _ _).set g 0 _ (fun _ => rfl)) (fun _ hk e => hne (e ▸ hk)), hne⟩
theorem NetR.row (h : NetR w g A c σ) {k : Nat} (hk : k < σ.ps.length) : ∃ b, A = some ⟨b, 0, none⟩ ∧ b < w.heap.size ∧ b ≠ g := by
  obtain ⟨b, rfl, hb⟩ := h.2.1.form (by omega)
  exact ⟨b, rfl, hb, fun e => h.2.2 (by rw [← e]; rfl)⟩
end
/-- A row that has grown is written into the net. -/
theorem netRGrow {w w1 w2 : World} {g : Nat} {A A1 : Option Addr} {c c1 : Nat} {σ : Nt} {a b l : Int} {ps : List (Int × ByteArray)} (h : NetR w g A c σ) (hw : Chg (Foot g A) w w1)
    (hg1 : w1.heap[g]? = some (.cells #[.slice A σ.ps.length c, .int .i64 a, .int .i64 b, .int .i64 l] 47 (0, 0)))
    (hr : PRow w2 A1 c1 ps) (hc : Chg (fun i => blk A = some i) w1 w2) (hk : ∀ k, blk A1 = some k → blk A = some k ∨ w.heap.size ≤ k) (hn : blk A1 ≠ some g) :
    NetRPost w g A ⟨a, b, l, ps⟩ (w2.setCell ⟨g, 0, none⟩ (.slice A1 ps.length c1)) := by
  have hlt : g < w1.heap.size := Nat.lt_of_lt_of_le h.lt hw.size
  have g2 := (hc.block g hlt (fun e => h.2.2 e)).trans hg1
  refine ⟨A1, c1, netR_setR g2 hr hn, hk, ?_⟩
  exact (hw.trans hc (fun i _ hi => .inr hi)).set g 0 _ (fun _ => .inl rfl)

theorem refIn_any (w : World) (g : Nat) (A : Option Addr) (c : Nat) (σ : Nt) (h : NetR w g A c σ) (i : Int) : Calls Try.prog 90 #[.pointer (some ⟨g, 0, none⟩), .int .i64 i] w fun e w' => e = .returned (.bool (decide (inN σ i))) ∧ w = w' := by
  obtain ⟨⟨c0, c1, c2, c3⟩, _⟩ := h.cells
  clear h
  by_cases h0 : i < 0
  · have H := Lib.hid (show decide (inN σ i) = false from decide_eq_false (by unfold inN; omega))
    go_enter Try.func90, Try.ntmps90
    go_wp2
    go_ret
    exact ⟨by rw [H.out]; rfl, rfl⟩
  · by_cases h1 : (σ.ps.length : Int) ≤ i
    · have H := Lib.hid (show decide (inN σ i) = false from decide_eq_false (by unfold inN; omega))
      go_enter Try.func90, Try.ntmps90
      go_wp2
      go_ret
      exact ⟨by rw [H.out]; show Ending.returned (.bool (decide (i < (σ.ps.length : Int)))) = _; rw [decide_eq_false (by omega)], rfl⟩
    · have H := Lib.hid (show decide (inN σ i) = true from decide_eq_true (by unfold inN; omega))
      go_enter Try.func90, Try.ntmps90
      go_wp2
      go_ret
      exact ⟨by rw [H.out]; rfl, rfl⟩

set_option maxRecDepth 100000 in
theorem refAt_any (w : World) (g : Nat) (A : Option Addr) (c : Nat) (σ : Nt) (h : NetR w g A c σ) (i : Int) :
    Calls Try.prog 70 #[.pointer (some ⟨g, 0, none⟩), .int .i64 i] w fun e w' => e = .returned (.tuple #[.agg #[.int .i64 (pAt σ i).1, .string (pAt σ i).2], .int .i64 (hasE σ i : Nat)]) ∧ Below w.heap.size w w' := by
  obtain ⟨hb1, hg1, hs1⟩ := alloc1 w #[.int .i64 0, .string ⟨#[]⟩] 70
  have hN := h.chg (F := fun _ => False) (.of_below hb1) (fun _ _ f => f)
  have HH := Lib.hid (refIn_any _ g A c σ hN i)
  by_cases hin : inN σ i
  · rw [decide_eq_true hin] at HH
    obtain ⟨k, hk, rfl⟩ := inN_nat hin
    obtain ⟨b, rfl, hbl⟩ := h.2.1.form (by omega)
    obtain ⟨d0, d1, _, _⟩ := hN.2.1.cell k hk
    obtain ⟨⟨c3, _, _, _⟩, _⟩ := hN.cells
    rw [hasE_in hin, pAt_in hk]
    have hkI : (k : Int) < (σ.ps.length : Int) := by omega
    generalize σ.ps[k] = p at *
    obtain ⟨q0, q1, q2, q3⟩ := cells2 hg1
    have E := Lib.hid (set2 hg1 (.int .i64 p.1) (.string p.2))
    have Hb := Lib.hid (below_set2 hb1 (g := w.heap.size) (Nat.le_refl _) (.int .i64 p.1) (.string p.2))
    clear h hN hin hb1 hg1 hs1
    go_enter Try.func70, Try.ntmps70
    go_wp2_with fail
    generalize w.alloc (.cells #[.int .i64 0, .string ⟨#[]⟩] 70) = w1 at *
    refine (HH.out).mono ?_
    rintro e w2 ⟨rfl, rfl⟩
    go_wp2_with fail
    try simp only [Exit.inBlock, Exit.then]
    exact bodyPost_ret (results_cell_tmp_row rfl _ _ w.heap.size _ _ _ _ rfl E.out Try.underlying70 rfl (by kernel_rfl)) rfl ⟨rfl, Hb.out⟩
  · rw [decide_eq_false hin] at HH
    rw [hasE_out hin, pAt_out hin]
    have E := Lib.hid hg1
    have Hb := Lib.hid hb1
    clear h hN hin hs1 hb1 hg1
    go_enter Try.func70, Try.ntmps70
    go_wp2_with fail
    refine (HH.out).mono ?_
    rintro e w2 ⟨rfl, rfl⟩
    go_wp2_with fail
    try simp only [Exit.inBlock, Exit.then]
    exact bodyPost_ret (results_cell_tmp_row rfl _ _ w.heap.size _ _ _ _ rfl E.out Try.underlying70 rfl (by kernel_rfl)) rfl ⟨rfl, Hb.out⟩

set_option maxRecDepth 100000 in
theorem refDrop_any (w : World) (g : Nat) (A : Option Addr) (c : Nat) (σ : Nt) (hok : σ.ok) (h : NetR w g A c σ) :
    Calls Try.prog 75 #[.pointer (some ⟨g, 0, none⟩)] w fun e w' => e = .returned (.tuple #[]) ∧ NetRPost w g A (dropN σ) w' := by
  obtain ⟨⟨c0, c1, c2, c3⟩, f0, f1, f2, f3⟩ := h.cells
  obtain ⟨h1, h2, ⟨h3, h4⟩, h5⟩ := hok
  have hp : NetRPost w g A (dropN σ) (((w.drew).setCell ⟨g, 3, none⟩ (.int .i64 (σ.l + σ.ps.length))).setCell ⟨g, 0, none⟩ (.slice none 0 0)) := by
    have k1 := ((h.chg (F := fun _ => False) ((Chg.refl _ w).drew) (fun _ _ f => f)).setL (σ.l + σ.ps.length)).1
    refine ⟨none, 0, netR_setR (ps := []) k1 (PRow.nil _) (by simp [blk]), fun k hk => by simp [blk] at hk, ?_⟩
    exact (((Chg.refl _ _).drew).set g 3 _ (fun _ => .inl rfl)).set g 0 _ (fun _ => .inl rfl)
  have Hp := Lib.hid hp
  clear h hp h1 h2
  go_enter Try.func75, Try.ntmps75
  go_wp2_with fail
  have p2 := fun w' (hk : KeepsBut [] w.drew w') => hk.cell (p := ⟨g, 0, none⟩) c0 (by simp)
  have p3 := fun w' (hk : KeepsBut [] w.drew w') => hk.cell (p := ⟨g, 3, none⟩) c3 (by simp)
  refine wp_region_mix3 (KeepsBut []) (KeepsBut.refl []) (KeepsBut.trans []) [13] [(0, 0), (0, 1), (0, 2), (0, 3), (0, 5), (0, 6), (0, 7), (1, 4), (1, 8), (0, 9), (0, 10), (0, 11), (0, 12), (2, 13)] (by kernel_rfl) (by kernel_rfl) (fun d _ _ _ _ h => by cases d <;> exact h) ?_
  repeat (first
    | (refine mix3_free (v := ?_) rfl rfl ?_ (mix3_norm (a' := ?_) ?_ ?_)
       rotate_left
       focus (intro w'; go_simp; first | done | (with_reducible rfl))
       rotate_left
       focus (simp only [Act.put, List.getElem_toArray, List.getElem_cons_zero, List.getElem_cons_succ, List.setIfInBounds_toArray, List.set_cons_zero, List.set_cons_succ]; rfl))
    | (refine mix3_pure (v := ?_) rfl rfl ?_ (mix3_norm (a' := ?_) ?_ ?_)
       rotate_left
       focus (intro w' hR; go_simp; first | done | (with_reducible rfl))
       rotate_left
       focus (simp only [Act.put, List.getElem_toArray, List.getElem_cons_zero, List.getElem_cons_succ, List.setIfInBounds_toArray, List.set_cons_zero, List.set_cons_succ]; rfl))
    | (refine mix3_freeOff rfl rfl (mix3_norm (a' := ?_) ?_ ?_)
       rotate_left
       focus (simp only [Act.put, List.getElem_toArray, List.getElem_cons_zero, List.getElem_cons_succ, List.setIfInBounds_toArray, List.set_cons_zero, List.set_cons_succ]; rfl))
    | (refine mix3_off rfl rfl (mix3_norm (a' := ?_) ?_ ?_)
       rotate_left
       focus (simp only [Act.put, List.getElem_toArray, List.getElem_cons_zero, List.getElem_cons_succ, List.setIfInBounds_toArray, List.set_cons_zero, List.set_cons_succ]; rfl)))
  clear p2 p3
  refine mix3_eff rfl ?_
  simp only [List.getElem_toArray, List.getElem_cons_zero, List.getElem_cons_succ]
  go_wp2_with fail
  refine mixQ3_last (by simp) rfl ?_
  refine mix3_done ?_
  go_wp2_with fail
  go_end0
  exact ⟨rfl, Hp.out⟩

set_option maxHeartbeats 1000000 in
set_option maxRecDepth 100000 in
theorem refSend_any (w : World) (g : Nat) (A : Option Addr) (c : Nat) (σ : Nt) (hok : σ.ok) (h : NetR w g A c σ) (to : Int) (s : ByteArray) :
    Calls Try.prog 69 #[.pointer (some ⟨g, 0, none⟩), .int .i64 to, .string s] w fun e w' => e = .returned (.int .i64 (sendE σ to : Nat)) ∧ NetRPost w g A (sendN σ to s) w' := by
  by_cases hto : to ≠ 0 ∧ to ≠ 1
  · have H := Lib.hid (show sendE σ to = 2 ∧ sendN σ to s = σ from ⟨by unfold sendE; rw [if_pos hto], by unfold sendN; rw [if_pos hto]⟩)
    have Hp := Lib.hid (NetR.same (.refl _ _) h)
    obtain ⟨t0, t1⟩ := hto
    have b0 : (to != 0) = true := by rw [bne_iff_ne]; exact t0
    have b1 : (to != 1) = true := by rw [bne_iff_ne]; exact t1
    clear h hok t0 t1
    go_enter Try.func69, Try.ntmps69
    go_wp2_with fail
    go_ret
    exact ⟨by rw [H.out.1]; rfl, by rw [H.out.2]; exact Hp.out⟩
  · have hto2 : to = 0 ∨ to = 1 := by omega
    obtain ⟨⟨c0, c1, c2', c3⟩, f0, f1, f2, f3⟩ := h.cells
    obtain ⟨⟨h1, h2⟩, _, ⟨h5, h6⟩, h7⟩ := hok
    have hS := h.setS (σ.s + 1)
    by_cases h60 : σ.ps.length = 60
    · have H := Lib.hid (show sendE σ to = 11 ∧ sendN σ to s = ⟨σ.s + 1, σ.c, σ.l + 1, σ.ps⟩ from ⟨by unfold sendE; rw [if_neg hto, if_pos h60], by unfold sendN; rw [if_neg hto, if_pos h60]⟩)
      have hp : NetRPost w g A ⟨σ.s + 1, σ.c, σ.l + 1, σ.ps⟩ ((w.setCell ⟨g, 1, none⟩ (.int .i64 (σ.s + 1))).setCell ⟨g, 3, none⟩ (.int .i64 (σ.l + 1))) :=
        ⟨A, c, hS.setL (σ.l + 1), fun _ hk => .inl hk, ((Chg.refl _ _).set g 1 _ (fun _ => .inl rfl)).set g 3 _ (fun _ => .inl rfl)⟩
      have Hp := Lib.hid hp
      have e60 : (60 : Int) ≤ (σ.ps.length : Int) := by omega
      clear hp hS h hto h60 h7
      rcases hto2 with rfl | rfl
      all_goals
        go_enter Try.func69, Try.ntmps69
        go_wp2_with fail
        go_ret
        exact ⟨by rw [H.out.1]; rfl, by rw [H.out.2]; exact Hp.out⟩
    · have H := Lib.hid (show sendE σ to = 0 ∧ sendN σ to s = ⟨σ.s + 1, σ.c, σ.l, σ.ps ++ [(to, s)]⟩ from ⟨by unfold sendE; rw [if_neg hto, if_neg h60], by unfold sendN; rw [if_neg hto, if_neg h60]⟩)
      have e60 : ¬ (60 : Int) ≤ (σ.ps.length : Int) := by omega
      have HN := Lib.hid h
      have HS := Lib.hid hS
      have Hlen := Lib.hid (show σ.ps.length + 1 ≤ 100000 by omega)
      have HC := Lib.hid ((Chg.refl (Foot g A) w).set g 1 (.int .i64 (σ.s + 1)) (fun _ => .inl rfl))
      have q0 := hS.cells.1.1
      simp only at q0
      have HP := Lib.hid (show ∀ v : Int, PRow ((w.setCell ⟨g, 1, none⟩ (.int .i64 (σ.s + 1))).alloc (.cells #[.int .i64 v, .string s] 70)) A c σ.ps ∧ Reads ((w.setCell ⟨g, 1, none⟩ (.int .i64 (σ.s + 1))).alloc (.cells #[.int .i64 v, .string s] 70)) 2 (some ⟨w.heap.size, 0, none⟩) 1 (pks [(v, s)]) ∧ Below w.heap.size (w.setCell ⟨g, 1, none⟩ (.int .i64 (σ.s + 1))) ((w.setCell ⟨g, 1, none⟩ (.int .i64 (σ.s + 1))).alloc (.cells #[.int .i64 v, .string s] 70)) from fun v => by
        have e : (w.setCell ⟨g, 1, none⟩ (.int .i64 (σ.s + 1))).heap.size = w.heap.size := size_set ..
        have hb := ((Below.refl (w.setCell ⟨g, 1, none⟩ (.int .i64 (σ.s + 1))).heap.size (w.setCell ⟨g, 1, none⟩ (.int .i64 (σ.s + 1)))).alloc (Nat.le_refl _) (.cells #[.int .i64 v, .string s] 70))
        refine ⟨hS.2.1.chg (F := fun _ => False) (.of_below hb) (fun _ _ f => f), ?_, by rw [e] at hb; exact hb⟩
        have h1 := Reads.of_block (sz := 2) (n := 1) (heap_alloc_new (w.setCell ⟨g, 1, none⟩ (.int .i64 (σ.s + 1))) (.cells #[.int .i64 v, .string s] 70)) rfl
        rw [e] at h1
        exact h1)
      have hsz : (w.setCell ⟨g, 1, none⟩ (.int .i64 (σ.s + 1))).heap.size = w.heap.size := size_set ..
      have Hsz := Lib.hid hsz
      clear h hS hto h60 h7 h5 h6 hsz
      rcases hto2 with rfl | rfl
      all_goals
        go_enter Try.func69, Try.ntmps69
        go_wp2_with (at_builtin; refine wpList_append_pk rfl (.tmp 39) (.tmp 43) rfl A c σ.ps rfl (HP.out _).1 (some ⟨w.heap.size, 0, none⟩) 1 [(_, s)] 1 rfl rfl (HP.out _).2.1 Hlen.out ?_)
        clear c0 c1 c2' c3 f0 f1 f2 f3 e60 q0
        intro A1 c1 w3 hrow hc3 hblk
        have hc3 : Chg (fun i => blk A = some i) _ w3 := ((Chg.refl (fun i => blk A = some i) _).alloc _).trans hc3 (fun _ _ h => h)
        have hlt := HN.out.lt
        have hfin := netRGrow HN.out HC.out HS.out.1 hrow hc3 (fun k hk => by
          rcases hblk k hk with h | h
          · exact .inl h
          · right; omega) (fun e => by
          rcases hblk g e with h | h
          · exact HN.out.2.2 h
          · omega)
        simp only [List.length_append, List.length_cons, List.length_nil, Nat.zero_add] at hfin
        have g3 := (hc3.block g HS.out.lt HS.out.2.2).trans HS.out.1
        obtain ⟨f3, _, _, _⟩ := (cells4 g3).2
        obtain ⟨u3, c3⟩ : ∃ u, w3.cell? ⟨g, 0, none⟩ = some u := ⟨_, (cells4 g3).1.1⟩
        have Hfin := Lib.hid hfin
        clear hrow hc3 hblk hlt hfin g3
        go_wp2_with fail
        go_ret
        exact ⟨by rw [H.out.1]; rfl, by rw [H.out.2]; exact Hfin.out⟩
end Go.Proofs.Ytiolfnnkkflaiaa
