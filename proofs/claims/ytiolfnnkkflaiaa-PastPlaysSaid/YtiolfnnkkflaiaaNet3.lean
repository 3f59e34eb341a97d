/- Nets: one more; one is there twice. -/
import Derived.Test.YtiolfnnkkflaiaaNet2
open Go.RowKit
namespace Go.Proofs.Ytiolfnnkkflaiaa

theorem keeps_alloc_drew (w : World) (o : Obj) : KeepsBut [] w.drew (w.alloc o).drew :=
  ⟨by show w.heap.size ≤ (w.heap.push _).size; rw [Array.size_push]; omega, fun i hi _ => heap_alloc_old w o hi⟩
theorem wpList_append_pk {w : World} {ops : Array Oper} {rest : List Oper} {o : Oper} {a : Act} {Q : Exit → Act → World → Prop} (hgd : o.guard = none) (s x : Operand)
    (ho : o.op = .call { callee := .builtin .append, args := #[s, x], argTypes := #[45, 45] })
    (A : Option Addr) (c : Nat) (ps : List (Int × ByteArray)) (hs : a.eval s = .slice A ps.length c) (hrow : PRow w A c ps)
    (A' : Option Addr) (c' : Nat) (qs : List (Int × ByteArray)) (m : Nat) (hm : qs.length = m) (hx : a.eval x = .slice A' m c') (hr : Reads w 2 A' m (pks qs)) (hlen : ps.length + m ≤ 100000)
    (h : ∀ A1 c1 w1, PRow w1 A1 c1 (ps ++ qs) → Chg (fun i => blk A = some i) w w1 → (∀ k, blk A1 = some k → blk A = some k ∨ k = w.heap.size) → wpList Try.prog ops Q rest (a.put o.dst (.slice A1 (ps ++ qs).length c1)) w1) : wpList Try.prog ops Q (o :: rest) a w := by
  obtain ⟨i0, hi, hz0, hz1, hz2⟩ := info_parts info_pk
  subst hm
  refine wpList_append_any w hgd s x 45 ho 0 70 i0 _ 2 24 Try.underlying45 hi hz0 hz1 hz2 rfl (by omega) _ _ _ hs hrow A' _ c' _ hx hr (oneCell_pks _) (by unfold maxLen; omega) (by omega) (Nat.zero_le _) ?_
  intro v' w' h1 h2 h3
  obtain ⟨A1, c1, rfl, _⟩ := own_slice h1
  rw [ownBlock_slice] at h2
  have hl : ps.length + qs.length = (ps ++ qs).length := by simp
  rw [← pks_append, hl] at h1
  rw [hl]
  refine h A1 c1 w' h1 ⟨h2.os, h2.tape, h2.output, h2.size, fun i hi hF => h2.block i hi (fun e => hF e.symm)⟩ fun k hk => ?_
  rw [ownBlock_slice, ownBlock_slice] at h3
  rcases h3 with h3 | h3
  · exact .inl (h3 ▸ hk)
  · rw [hk] at h3; exact .inr (Option.some.inj h3)

/-- A row that has grown is written into the net. -/
theorem netGrow {w w1 w2 : World} {g : Nat} {A A1 : Option Addr} {c c1 : Nat} {σ : Nt} {a b l : Int} {ps : List (Int × ByteArray)} (h : NetP w g A c σ) (hw : Chg (Foot g A) w w1)
    (hg1 : w1.heap[g]? = some (.cells #[.int .i64 a, .int .i64 b, .int .i64 l, .slice A σ.ps.length c] 99 (0, 0)))
    (hr : PRow w2 A1 c1 ps) (hc : Chg (fun i => blk A = some i) w1 w2) (hk : ∀ k, blk A1 = some k → blk A = some k ∨ w.heap.size ≤ k) (hn : blk A1 = none ∨ blk A1 ≠ some g) :
    NetPost w g A ⟨a, b, l, ps⟩ (w2.setCell ⟨g, 3, none⟩ (.slice A1 ps.length c1)) := by
  have hlt : g < w1.heap.size := Nat.lt_of_lt_of_le h.lt hw.size
  have g2 := (hc.block g hlt (fun e => h.2.2 e)).trans hg1
  refine ⟨A1, c1, netP_setR g2 hr (by rcases hn with hn | hn; simp [hn]; exact hn), hk, ?_⟩
  exact (hw.trans hc (fun i _ hi => .inr hi)).set g 3 _ (fun _ => .inl rfl)

set_option maxHeartbeats 1000000 in
set_option maxRecDepth 100000 in
theorem netSend_any (w : World) (g : Nat) (A : Option Addr) (c : Nat) (σ : Nt) (hok : σ.ok) (h : NetP w g A c σ) (to : Int) (B : Option Addr) (l : List UInt8) (c2 : Nat) (hr : Reads w 1 B l.length (bv l)) :
    Calls Try.prog 46 #[.pointer (some ⟨g, 0, none⟩), .int .i64 to, .slice B l.length c2] w fun e w' => e = .returned (.int .i64 (sendE σ to : Nat)) ∧ NetPost w g A (sendN σ to ⟨l.toArray⟩) w' := by
  by_cases hto : to ≠ 0 ∧ to ≠ 1
  · have H := Lib.hid (show sendE σ to = 2 ∧ sendN σ to ⟨l.toArray⟩ = σ from ⟨by unfold sendE; rw [if_pos hto], by unfold sendN; rw [if_pos hto]⟩)
    have Hp := Lib.hid (NetP.same (.refl _ _) h)
    obtain ⟨t0, t1⟩ := hto
    have b0 : (to != 0) = true := by rw [bne_iff_ne]; exact t0
    have b1 : (to != 1) = true := by rw [bne_iff_ne]; exact t1
    clear h hr hok t0 t1
    go_enter Try.func46, Try.ntmps46
    go_wp2_with fail
    go_ret
    exact ⟨by rw [H.out.1]; rfl, by rw [H.out.2]; exact Hp.out⟩
  · have hto2 : to = 0 ∨ to = 1 := by omega
    obtain ⟨⟨c0, c1, c2', c3⟩, f0, f1, f2, f3⟩ := h.cells
    obtain ⟨⟨h1, h2⟩, _, ⟨h5, h6⟩, h7⟩ := hok
    have hS := h.setS (σ.s + 1)
    by_cases h60 : σ.ps.length = 60
    · have H := Lib.hid (show sendE σ to = 11 ∧ sendN σ to ⟨l.toArray⟩ = ⟨σ.s + 1, σ.c, σ.l + 1, σ.ps⟩ from ⟨by unfold sendE; rw [if_neg hto, if_pos h60], by unfold sendN; rw [if_neg hto, if_pos h60]⟩)
      have hp : NetPost w g A ⟨σ.s + 1, σ.c, σ.l + 1, σ.ps⟩ ((w.setCell ⟨g, 0, none⟩ (.int .i64 (σ.s + 1))).setCell ⟨g, 2, none⟩ (.int .i64 (σ.l + 1))) :=
        ⟨A, c, hS.setL (σ.l + 1), fun _ hk => .inl hk, ((Chg.refl _ _).set g 0 _ (fun _ => .inl rfl)).set g 2 _ (fun _ => .inl rfl)⟩
      have Hp := Lib.hid hp
      have e60 : ((σ.ps.length : Int) == 60) = true := by rw [h60]; rfl
      clear hp hS h hr hto h60 h7
      rcases hto2 with rfl | rfl
      all_goals
        go_enter Try.func46, Try.ntmps46
        go_wp2_with fail
        go_ret
        exact ⟨by rw [H.out.1]; rfl, by rw [H.out.2]; exact Hp.out⟩
    · have H := Lib.hid (show sendE σ to = 0 ∧ sendN σ to ⟨l.toArray⟩ = ⟨σ.s + 1, σ.c, σ.l, σ.ps ++ [(to, ⟨l.toArray⟩)]⟩ from ⟨by unfold sendE; rw [if_neg hto, if_neg h60], by unfold sendN; rw [if_neg hto, if_neg h60]⟩)
      have e60 : ((σ.ps.length : Int) == 60) = false := by rw [beq_eq_false_iff_ne]; omega
      have HN := Lib.hid h
      have HS := Lib.hid hS
      have hlen : σ.ps.length + 1 ≤ 100000 := by omega
      have Hlen := Lib.hid hlen
      have HC := Lib.hid ((Chg.refl (Foot g A) w).set g 0 (.int .i64 (σ.s + 1)) (fun _ => .inl rfl))
      have Hr := Lib.hid (hr.far (i := 0) (v := .int .i64 (σ.s + 1)) h.1 (by simp))
      clear h hr hS hto h60 h7 hlen h5 h6
      rcases hto2 with rfl | rfl
      all_goals
        go_enter Try.func46, Try.ntmps46
        go_wp2_with fail
        clear c0 c1 c2' c3 f0 f1 f2 f3 e60
        generalize w.setCell ⟨g, 0, none⟩ (.int .i64 (σ.s + 1)) = w1 at HS HC Hr ⊢
        obtain ⟨⟨_, _, _, c3⟩, _, _, _, f3⟩ := HS.out.cells
        simp only at c3
        have p3 := fun w' (hk : KeepsBut [] w1.drew w') => hk.cell (p := ⟨g, 3, none⟩) c3 (by simp)
        have pc : ∀ w', KeepsBut [] w1.drew w' → (convert 74 9 (.slice B l.length c2)).run Try.prog w' = .ok (.string ⟨l.toArray⟩) w' := fun w' hk => run_string_of_bytes c2 (Hr.out.keep fun p u hu => hk.cell (p := p) hu (by simp))
        refine wp_region_mix3 (KeepsBut []) (KeepsBut.refl []) (KeepsBut.trans []) [10, 13] [(0, 0), (0, 1), (0, 2), (0, 3), (0, 5), (0, 6), (1, 4), (1, 7), (0, 8), (2, 9), (2, 10), (0, 11), (0, 12), (2, 13)] (by kernel_rfl) (by kernel_rfl) (fun d _ _ _ _ h => by cases d <;> exact h) ?_
        repeat (first
          | (refine mix3_free (v := ?_) rfl rfl ?_ (mix3_norm (a' := ?_) ?_ ?_)
             rotate_left
             focus (intro w'; go_simp; first | done | (with_reducible rfl))
             rotate_left
             focus (simp only [Act.put, List.getElem_toArray, List.getElem_cons_zero, List.getElem_cons_succ, List.setIfInBounds_toArray, List.set_cons_zero, List.set_cons_succ]; rfl))
          | (refine mix3_pure (v := ?_) rfl rfl ?_ (mix3_norm (a' := ?_) ?_ ?_)
             rotate_left
             focus (intro w' hR; go_simp; first | done | (with_reducible rfl))
             rotate_left
             focus (simp only [Act.put, List.getElem_toArray, List.getElem_cons_zero, List.getElem_cons_succ, List.setIfInBounds_toArray, List.set_cons_zero, List.set_cons_succ]; rfl))
          | (refine mix3_freeOff rfl rfl (mix3_norm (a' := ?_) ?_ ?_)
             rotate_left
             focus (simp only [Act.put, List.getElem_toArray, List.getElem_cons_zero, List.getElem_cons_succ, List.setIfInBounds_toArray, List.set_cons_zero, List.set_cons_succ]; rfl))
          | (refine mix3_off rfl rfl (mix3_norm (a' := ?_) ?_ ?_)
             rotate_left
             focus (simp only [Act.put, List.getElem_toArray, List.getElem_cons_zero, List.getElem_cons_succ, List.setIfInBounds_toArray, List.set_cons_zero, List.set_cons_succ]; rfl)))
        clear p3 pc c3 f3
        refine mix3_eff rfl ?_
        simp only [List.getElem_toArray, List.getElem_cons_zero, List.getElem_cons_succ]
        go_wp2_with fail
        refine mixQ3_normal (keeps_alloc_drew _ _) rfl ?_
        refine mix3_eff rfl ?_
        simp only [List.getElem_toArray, List.getElem_cons_zero, List.getElem_cons_succ]
        refine wpList_append_pk rfl (.tmp 45) (.tmp 50) rfl A c σ.ps rfl (HS.out.2.1.chg (F := fun _ => False) (.of_below (((Below.refl w1.heap.size w1).alloc (Nat.le_refl _) _).drew)) (fun _ _ f => f)) (some ⟨w1.heap.size, 0, none⟩) 1 [(_, ⟨l.toArray⟩)] 1 rfl rfl (Reads.of_block (n := 1) (cs := #[.int .i64 _, .string ⟨l.toArray⟩]) (heap_alloc_new _ _) rfl) Hlen.out ?_
        intro A1 c1 w3 hrow hc3 hblk
        have hc3 : Chg (fun i => blk A = some i) w1 w3 := (Chg.of_below (F := fun i => blk A = some i) (((Below.refl w1.heap.size w1).alloc (Nat.le_refl _) _).drew)).trans hc3 (fun _ _ h => h)
        have hblk : ∀ k, blk A1 = some k → blk A = some k ∨ w1.heap.size ≤ k := fun k hk => by
          rcases hblk k hk with h | h
          · exact .inl h
          · right; rw [h]; show w1.heap.size ≤ (w1.heap.push _).size; rw [Array.size_push]; omega
        have hlt : g < w1.heap.size := HS.out.lt
        have hne : blk A1 = none ∨ blk A1 ≠ some g := .inr fun e => by
          rcases hblk g e with h | h
          · exact HS.out.2.2 h
          · omega
        have hfin := (netGrow HN.out HC.out HS.out.1 hrow hc3 (fun k hk => by
          rcases hblk k hk with h | h
          · exact .inl h
          · exact .inr (Nat.le_trans HC.out.size h)) hne)
        simp only [List.length_append, List.length_cons, List.length_nil, Nat.zero_add] at hfin
        have Hfin := Lib.hid hfin
        obtain ⟨_, _, _, _⟩ := (cells4 ((hc3.block g hlt HS.out.2.2).trans HS.out.1)).1
        obtain ⟨_, _, _, f3⟩ := (cells4 ((hc3.block g hlt HS.out.2.2).trans HS.out.1)).2
        obtain ⟨u3, c3⟩ : ∃ u, w3.cell? ⟨g, 3, none⟩ = some u := ⟨_, by assumption⟩
        clear hrow hc3 hblk hlt hne hfin
        go_wp2_with fail
        refine mixQ3_last (by simp) rfl ?_
        repeat (first
          | (refine mix3_free (v := ?_) rfl rfl ?_ (mix3_norm (a' := ?_) ?_ ?_)
             rotate_left
             focus (intro w'; go_simp; first | done | (with_reducible rfl))
             rotate_left
             focus (simp only [Act.put, List.getElem_toArray, List.getElem_cons_zero, List.getElem_cons_succ, List.setIfInBounds_toArray, List.set_cons_zero, List.set_cons_succ]; rfl))
          | (refine mix3_pure (v := ?_) rfl rfl ?_ (mix3_norm (a' := ?_) ?_ ?_)
             rotate_left
             focus (intro w' hR; go_simp; first | done | (with_reducible rfl))
             rotate_left
             focus (simp only [Act.put, List.getElem_toArray, List.getElem_cons_zero, List.getElem_cons_succ, List.setIfInBounds_toArray, List.set_cons_zero, List.set_cons_succ]; rfl))
          | (refine mix3_freeOff rfl rfl (mix3_norm (a' := ?_) ?_ ?_)
             rotate_left
             focus (simp only [Act.put, List.getElem_toArray, List.getElem_cons_zero, List.getElem_cons_succ, List.setIfInBounds_toArray, List.set_cons_zero, List.set_cons_succ]; rfl))
          | (refine mix3_off rfl rfl (mix3_norm (a' := ?_) ?_ ?_)
             rotate_left
             focus (simp only [Act.put, List.getElem_toArray, List.getElem_cons_zero, List.getElem_cons_succ, List.setIfInBounds_toArray, List.set_cons_zero, List.set_cons_succ]; rfl)))
        refine mix3_eff rfl ?_
        simp only [List.getElem_toArray, List.getElem_cons_zero, List.getElem_cons_succ]
        go_wp2_with fail
        refine mixQ3_last (by simp) rfl ?_
        refine mix3_done ?_
        go_wp2_with fail
        go_ret
        exact ⟨by rw [H.out.1]; rfl, by rw [H.out.2]; exact Hfin.out⟩
end Go.Proofs.Ytiolfnnkkflaiaa
