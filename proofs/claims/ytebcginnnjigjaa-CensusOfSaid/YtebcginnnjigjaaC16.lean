import Derived.Test.YtebcginnnjigjaaC13
import Derived.Laws.IdiomCopy
section
/- Packets: one is taken out of a row. -/
open Go.RowKit
namespace Go.Proofs.Ytebcginnnjigjaa

/-- The first of a row. -/
theorem PRow.pre {w : World} {b c : Nat} {ps : List (Int × ByteArray)} (h : PRow w (some ⟨b, 0, none⟩) c ps) (k : Nat) (hk : k ≤ ps.length) : w.ownsRow 0 51 2 (.slice (some ⟨b, 0, none⟩) k c) k (pks (ps.take k)) := by
  obtain ⟨h1, h2⟩ := h
  refine ⟨by rw [pks_length, List.length_take, Nat.min_eq_left hk], ?_⟩
  rcases h2 with ⟨h2, _⟩ | ⟨g, cap, cur, hv, hb, hg, hn, hm, hs, ht⟩
  · cases h2
  · cases hv
    refine .inr ⟨b, c, cur, rfl, hb, hg, Nat.le_trans hk hn, hm, hs, ?_⟩
    rw [← pks_take, ← ht, List.take_take, Nat.min_eq_left (Nat.mul_le_mul_right 2 hk)]

set_option maxRecDepth 100000 in
theorem wpList_append_spare_pk {w : World} {ops : Array Oper} {rest : List Oper} {o : Oper} {a : Act} {Q : Exit → Act → World → Prop} (hgd : o.guard = none) (s x : Operand)
    (ho : o.op = .call { callee := .builtin .append, args := #[s, x], argTypes := #[22, 22] })
    (b c k m r : Nat) (ps qs : List (Int × ByteArray)) (hs : a.eval s = .slice (some ⟨b, 0, none⟩) k c) (hrow : w.ownsRow 0 51 2 (.slice (some ⟨b, 0, none⟩) k c) k (pks ps)) (hk : ps.length = k)
    (A' : Option Addr) (c' : Nat) (hx : a.eval x = .slice A' m c') (hA : A'.isSome = true) (hr : Reads w 2 A' m (pks qs)) (hm : qs.length = m) (hroom : k + m ≤ c) (hr2 : k + m = r)
    (h : ∀ w1, PRow w1 (some ⟨b, 0, none⟩) c (ps ++ qs) → Chg (fun i => i = b) w w1 → wpList Try.prog ops Q rest (a.put o.dst (.slice (some ⟨b, 0, none⟩) r c)) w1) : wpList Try.prog ops Q (o :: rest) a w := by
  obtain ⟨i0, hi, hz0, hz1, hz2⟩ := info_parts info_pk
  obtain ⟨ad, rfl⟩ := Option.isSome_iff_exists.1 hA
  subst hr2
  refine wpList_append_own_spare w hgd s x 22 ho 0 51 i0 2 Try.underlying22 hi hz1 b k c (pks ps) hs hrow ad m c' (pks qs) hx hr.1 (fun j u hu => ?_) (oneCell_pks _) hroom ?_
  · have h0 : 0 < m := by
      have := (List.getElem?_eq_some_iff.1 hu).1
      rw [pks_length] at this; omega
    obtain ⟨ad', e, hc⟩ := hr.2 h0
    injection e with e
    subst e
    exact hc j u hu
  · intro w1 h1 h2
    refine h w1 ?_ ⟨h2.os, h2.tape, h2.output, h2.size, fun i hi hne => h2.block i hi (fun e => hne (Option.some.inj e))⟩
    unfold PRow
    rw [List.length_append, hk, hm, pks_append]
    exact h1

/-- 'clear' of one packet behind a row. -/
theorem run_clear_pk {w : World} {b c c' : Nat} {ps : List (Int × ByteArray)} {ty : TypeId} (h : PRow w (some ⟨b, 0, none⟩) c ps) (hc : ps.length + 1 ≤ c) :
    (Builtin.clear_ #[22] ty #[.slice (some ⟨b, ps.length * 2, none⟩) 1 c']).run Try.prog w = .ok (.tuple #[]) ((w.setCell ⟨b, ps.length * 2, none⟩ (.int .i64 0)).setCell ⟨b, ps.length * 2 + 1, none⟩ (.string ⟨#[]⟩)) := by
  obtain ⟨i0, hi, hz0, hz1, hz2⟩ := info_parts info_pk
  have hcell : ∀ j, j < 2 → (w.cell? ⟨b, ps.length * 2 + 0 + j, none⟩).isSome = true := by
    intro j hj
    rcases h.2 with ⟨h2, _⟩ | ⟨g, cap, cur, hv, hb, hg, hn, hm, hs, ht⟩
    · cases h2
    · cases hv
      rw [cell_of_row _ _ _ _ _ _ hg, Array.getElem?_eq_getElem (by rw [hs]; omega)]; rfl
  have hst := run_storeCells_cells (P := Try.prog) b (ps.length * 2) [.int .i64 0, .string ⟨#[]⟩] 0 w hcell (fun j hj => World.ownsRow.frozenAt h _) (by intro v hv; simp at hv; rcases hv with rfl | rfl <;> rfl)
  have hzv : (zeroValue 51).run Try.prog w = .ok (.agg #[.int .i64 0, .string ⟨#[]⟩]) w := by
    simp [zeroValue, typeInfo, hi, hz0]
  simp only [Nat.add_zero] at hst
  simp [Builtin.clear_, run_underlying Try.underlying22, hzv, Builtin.zeroCells, Value.cells]
  exact (congrArg (fun r => Result.andThen r _) hst).trans rfl
theorem PRow.setAfter {w : World} {b c j : Nat} {ps : List (Int × ByteArray)} (h : PRow w (some ⟨b, 0, none⟩) c ps) (hj : ps.length * 2 ≤ j) (v : Value) : PRow (w.setCell ⟨b, j, none⟩ v) (some ⟨b, 0, none⟩) c ps := by
  have h1 := (World.ownsRow.stored h j v).1
  rw [List.set_eq_of_length_le (by rw [pks_length]; exact hj)] at h1
  exact h1

set_option maxHeartbeats 1000000 in
set_option maxRecDepth 100000 in
theorem delete_any (w : World) (b c : Nat) (ps : List (Int × ByteArray)) (k : Nat) (hk : k < ps.length) (hlen : ps.length ≤ 100000) (h : PRow w (some ⟨b, 0, none⟩) c ps) :
    Calls Try.prog 51 #[.slice (some ⟨b, 0, none⟩) ps.length c, .int .i64 (k : Int), .int .i64 ((k : Int) + 1)] w fun e w' => e = .returned (.slice (some ⟨b, 0, none⟩) (ps.eraseIdx k).length c) ∧ PRow w' (some ⟨b, 0, none⟩) c (ps.eraseIdx k) ∧ Chg (fun i => i = b) w w' := by
  have hcap := h.cap
  obtain ⟨i0, hi, hz0, hz1, hz2⟩ := info_parts info_pk
  have hel : Try.prog.elem 22 = 51 := by simp [Program.elem, Try.underlying22]
  have hu : Try.prog.underlying 22 = some (.slice (Try.prog.elem 22)) := by rw [hel]; exact Try.underlying22
  obtain ⟨V, s1⟩ : ∃ V, ∀ W : World, (Instr.slice 22 (.slice (some ⟨b, 0, none⟩) ps.length c) (some (.int .i64 (k : Int))) (some (.int .i64 ((k : Int) + 1))) (some (.int .i64 (ps.length : Int)))).run Try.prog W = .ok V W := by
    refine ⟨sliced (some ⟨b, 0, none⟩) (k : Int).toNat ((k : Int) + 1).toNat (ps.length : Int).toNat 2, fun W => ?_⟩
    rw [run_slice_lhm W 22 _ _ c hu .i64 .i64 .i64 _ _ _ (by omega) (by omega) (by omega) (by omega), hel]
    simp [sizeOf, typeInfo, hi, hz1, Result.andThen]
  have s2 := (cut_to (P := Try.prog) 22 51 Try.underlying22 hi 2 (some ⟨b, 0, none⟩) ps.length c k (by omega) hcap).1
  obtain ⟨A', hs, s3, hA'⟩ : ∃ A' : Option Addr, A'.isSome = true ∧ (∀ W : World, (Instr.slice 22 (.slice (some ⟨b, 0, none⟩) ps.length c) (some (.int .i64 ((k : Int) + 1))) none none).run Try.prog W = .ok (.slice A' (ps.length - (k + 1)) (c - (k + 1))) W) ∧ Reads w 2 A' (ps.length - (k + 1)) (pks (ps.drop (k + 1))) := by
    refine ⟨if c = k + 1 then some ⟨b, 0, none⟩ else (some ⟨b, 0, none⟩ : Option Addr).map (·.add ((k + 1) * 2)), by split <;> rfl, fun W => ?_, ?_⟩
    · have e : ((k : Int) + 1).toNat = k + 1 := by omega
      rw [run_slice_l W 22 _ _ c hu .i64 ((k : Int) + 1) (by omega) (by omega), hel, e]
      simp [sizeOf, typeInfo, hi, hz1, sliced, Result.andThen]
    · have := h.reads.drop_ (lo := k + 1) (by omega) hcap
      rw [pks_drop] at this
      exact this
  obtain ⟨m, hm⟩ : ∃ m, ps.length = k + 1 + m := ⟨ps.length - (k + 1), by omega⟩
  have hr : ps.length - (k + 1) = m := by omega
  have hl : (ps.eraseIdx k).length = k + m := by rw [List.length_eraseIdx, if_pos hk]; omega
  have he : ps.eraseIdx k = ps.take k ++ ps.drop (k + 1) := List.eraseIdx_eq_take_drop_succ ..
  have s4 : ∀ W : World, (Instr.slice 22 (.slice (some ⟨b, 0, none⟩) (ps.eraseIdx k).length c) (some (.int .i64 ((ps.eraseIdx k).length : Int))) (some (.int .i64 (ps.length : Int))) none).run Try.prog W = .ok (.slice (some ⟨b, (ps.eraseIdx k).length * 2, none⟩) 1 (c - (ps.eraseIdx k).length)) W := fun W => by
    rw [run_slice_lh W 22 _ _ c hu .i64 .i64 _ _ (by omega) (by omega) (by omega), hel]
    have e1 : ¬ c = (ps.eraseIdx k).length := by omega
    have e2 : ps.length - (ps.eraseIdx k).length = 1 := by omega
    have e3 : (⟨b, 0, none⟩ : Addr).add ((ps.eraseIdx k).length * 2) = ⟨b, (ps.eraseIdx k).length * 2, none⟩ := by unfold Addr.add; split <;> simp_all
    simp [sizeOf, typeInfo, hi, hz1, sliced, Result.andThen, e1, e2, e3]
  have HA := Lib.hid hA'
  rw [hr] at s3 HA
  have Hpre := Lib.hid (h.pre k (by omega))
  have hclr : ∀ (w1 : World) ty c', PRow w1 (some ⟨b, 0, none⟩) c (ps.eraseIdx k) → (Builtin.clear_ #[22] ty #[.slice (some ⟨b, (ps.eraseIdx k).length * 2, none⟩) 1 c']).run Try.prog w1 = .ok (.tuple #[]) ((w1.setCell ⟨b, (ps.eraseIdx k).length * 2, none⟩ (.int .i64 0)).setCell ⟨b, (ps.eraseIdx k).length * 2 + 1, none⟩ (.string ⟨#[]⟩)) := fun w1 ty c' h1 => run_clear_pk h1 (by omega)
  have Hclr := Lib.hid hclr
  have Hl := Lib.hid hl
  have He := Lib.hid he
  have Hd := Lib.hid (show (ps.take k).length = k ∧ (ps.drop (k + 1)).length = m ∧ k + m ≤ c from ⟨by rw [List.length_take]; omega, by rw [List.length_drop]; omega, by omega⟩)
  have HC := Lib.hid (show ∀ w1 : World, PRow w1 (some ⟨b, 0, none⟩) c (ps.eraseIdx k) → PRow ((w1.setCell ⟨b, (ps.eraseIdx k).length * 2, none⟩ (.int .i64 0)).setCell ⟨b, (ps.eraseIdx k).length * 2 + 1, none⟩ (.string ⟨#[]⟩)) (some ⟨b, 0, none⟩) c (ps.eraseIdx k) from fun w1 h1 => (h1.setAfter (Nat.le_refl _) _).setAfter (Nat.le_succ _) _)
  have hne : ((k : Int) == (k : Int) + 1) = false := by rw [beq_eq_false_iff_ne]; omega
  clear hA' hi hz0 hz1 hz2 hu hel hclr hl he hr hm hcap h
  generalize hr : (ps.eraseIdx k).length = r at s4 Hclr Hl HC ⊢
  have Hr := Lib.hid hr
  clear hr
  generalize ps.length = n at *
  go_enter Try.func51, Try.ntmps51
  go_wp2_with fail
  refine wp_region_mix3 (KeepsBut []) (KeepsBut.refl []) (KeepsBut.trans []) [6] [(0, 0), (0, 1), (0, 2), (0, 3), (0, 4), (0, 5), (2, 6), (0, 7)] (by kernel_rfl) (by kernel_rfl) (fun d _ _ _ _ h => by cases d <;> exact h) ?_
  repeat ((first | (refine mix3_free (v := ?_) rfl rfl ?_ (mix3_norm (a' := ?_) ?_ ?_); rotate_left; focus (intro w'; go_simp; first | done | (with_reducible rfl))) | (refine mix3_pure (v := ?_) rfl rfl ?_ (mix3_norm (a' := ?_) ?_ ?_); rotate_left; focus (intro w' hR; go_simp; first | done | (with_reducible rfl))) | refine mix3_freeOff rfl rfl (mix3_norm (a' := ?_) ?_ ?_) | refine mix3_off rfl rfl (mix3_norm (a' := ?_) ?_ ?_)); rotate_left; focus (simp only [Act.put, List.getElem_toArray, List.getElem_cons_zero, List.getElem_cons_succ, List.setIfInBounds_toArray, List.set_cons_zero, List.set_cons_succ]; rfl))
  clear s1 s2 s3 hne
  refine mix3_eff rfl ?_
  simp only [List.getElem_toArray, List.getElem_cons_zero, List.getElem_cons_succ]
  refine wpList_append_spare_pk rfl (.tmp 22) (.tmp 25) rfl b c k m r (ps.take k) (ps.drop (k + 1)) rfl Hpre.out Hd.out.1 A' (c - (k + 1)) rfl hs HA.out Hd.out.2.1 Hd.out.2.2 Hl.out.symm ?_
  intro w1 hrow hchg
  rw [← He.out] at hrow
  have Hrow := Lib.hid hrow
  have Hchg := Lib.hid (show Chg (fun i => i = b) w w1 from ((Chg.refl (fun i => i = b) w).drew).trans hchg (fun _ _ h => h))
  clear hrow hchg
  go_wp2_with fail
  refine mixQ3_last (by simp) rfl ?_
  repeat ((first | (refine mix3_free (v := ?_) rfl rfl ?_ (mix3_norm (a' := ?_) ?_ ?_); rotate_left; focus (intro w'; go_simp; first | done | (with_reducible rfl))) | (refine mix3_pure (v := ?_) rfl rfl ?_ (mix3_norm (a' := ?_) ?_ ?_); rotate_left; focus (intro w' hR; go_simp; first | done | (with_reducible rfl))) | refine mix3_freeOff rfl rfl (mix3_norm (a' := ?_) ?_ ?_) | refine mix3_off rfl rfl (mix3_norm (a' := ?_) ?_ ?_)); rotate_left; focus (simp only [Act.put, List.getElem_toArray, List.getElem_cons_zero, List.getElem_cons_succ, List.setIfInBounds_toArray, List.set_cons_zero, List.set_cons_succ]; rfl))
  refine mix3_done ?_
  have hclr := fun ty c' => Hclr.out w1 ty c' Hrow.out
  go_wp2_with fail
  go_ret
  exact ⟨rfl, HC.out w1 Hrow.out, (Hchg.out.set b _ _ (fun _ => rfl)).set b _ _ (fun _ => rfl)⟩
end Go.Proofs.Ytebcginnnjigjaa

end
section
/- Nets: one comes, one is lost; another one. -/
open Go.RowKit
namespace Go.Proofs.Ytebcginnnjigjaa

theorem takeN_in {σ : Nt} {k : Nat} (hk : k < σ.ps.length) : takeN σ (k : Int) = ⟨σ.s, σ.c + 1, σ.l, σ.ps.eraseIdx k⟩ := by unfold takeN; rw [if_pos (show inN σ k by unfold inN; omega), Int.toNat_natCast]
theorem takeN_out {σ : Nt} {i : Int} (h : ¬ inN σ i) : takeN σ i = σ := by unfold takeN; rw [if_neg h]
theorem loseN_in {σ : Nt} {k : Nat} (hk : k < σ.ps.length) : loseN σ (k : Int) = ⟨σ.s, σ.c, σ.l + 1, σ.ps.eraseIdx k⟩ := by unfold loseN; rw [if_pos (show inN σ k by unfold inN; omega), Int.toNat_natCast]
theorem loseN_out {σ : Nt} {i : Int} (h : ¬ inN σ i) : loseN σ i = σ := by unfold loseN; rw [if_neg h]

set_option maxHeartbeats 1000000 in
set_option maxRecDepth 100000 in
theorem netLose_any (w : World) (g : Nat) (A : Option Addr) (c : Nat) (σ : Nt) (hok : σ.ok) (h : NetP w g A c σ) (i : Int) :
    Calls Try.prog 31 #[.pointer (some ⟨g, 0, none⟩), .int .i64 i] w fun e w' => e = .returned (.int .i64 (hasE σ i : Nat)) ∧ NetPost w g A (loseN σ i) w' := by
  have HH := Lib.hid (netHas_any w g A c σ h i)
  by_cases hin : inN σ i
  · rw [hasE_in hin] at HH
    have H := Lib.hid (hasE_in hin)
    obtain ⟨k, hk, rfl⟩ := inN_nat hin
    have H2 := Lib.hid (loseN_in hk)
    obtain ⟨b, rfl, hbl, hbg⟩ := h.row hk
    obtain ⟨⟨_, _, _, c3⟩, _, _, _, f3⟩ := h.cells
    obtain ⟨⟨h1, h2⟩, _, ⟨h5, h6⟩, h7⟩ := hok
    have Hdel := Lib.hid (delete_any w b c σ.ps k hk (by omega) h.2.1)
    have HN := Lib.hid h
    have hk100 : k ≤ 100 := by omega
    clear h hin hk h7 h1 h2
    go_enter Try.func31, Try.ntmps31
    go_wp2_with fail
    refine HH.out.mono ?_
    rintro e w1 ⟨rfl, rfl⟩
    go_wp2_with fail
    clear c3 f3
    refine Hdel.out.mono ?_
    rintro e w2 ⟨rfl, hrow, hchg⟩
    have hchg : Chg (fun i => blk (some ⟨b, 0, none⟩) = some i) w w2 := hchg.mono fun i _ e => by rw [e]; rfl
    have hfin := netGrow HN.out (Chg.refl _ _) HN.out.1 hrow hchg (fun _ hk => .inl hk) (.inr HN.out.2.2)
    obtain ⟨_, _, _, f3⟩ := (cells4 ((hchg.block g HN.out.lt HN.out.2.2).trans HN.out.1)).2
    obtain ⟨u3, c3⟩ : ∃ u, w2.cell? ⟨g, 3, none⟩ = some u := ⟨_, (cells4 ((hchg.block g HN.out.lt HN.out.2.2).trans HN.out.1)).1.2.2.2⟩
    obtain ⟨A4, c4, hN4, hk4, hC4⟩ := hfin
    obtain ⟨⟨_, _, q2, _⟩, _, _, f2, _⟩ := hN4.cells
    simp only at q2
    have Hp := Lib.hid (show NetPost w g (some ⟨b, 0, none⟩) ⟨σ.s, σ.c, σ.l + 1, σ.ps.eraseIdx k⟩ (_) from ⟨A4, c4, hN4.setL (σ.l + 1), hk4, hC4.set g 2 _ (fun _ => .inl rfl)⟩)
    clear hrow hchg hN4 hk4 hC4
    go_wp2_with fail
    go_ret
    exact ⟨by rw [H.out]; rfl, by rw [H2.out]; exact Hp.out⟩
  · have H := Lib.hid (hasE_out hin)
    have H2 := Lib.hid (loseN_out hin)
    have Hp := Lib.hid (NetP.same (.refl _ _) h)
    rw [hasE_out hin] at HH
    clear h hin hok
    go_enter Try.func31, Try.ntmps31
    go_wp2_with fail
    refine HH.out.mono ?_
    rintro e w1 ⟨rfl, rfl⟩
    rw [show ((3 : Nat) : Int) = 3 from rfl]
    go_wp2_with fail
    go_ret
    exact ⟨by rw [H.out]; rfl, by rw [H2.out]; exact Hp.out⟩

theorem netSend_nil (w : World) (to : Int) (v : Value) : Calls Try.prog 24 #[.pointer none, .int .i64 to, v] w fun e w' => e = .returned (.int .i64 1) ∧ w = w' := by
  go_enter Try.func24, Try.ntmps24
  go_wp2
  go_ret
  exact ⟨rfl, rfl⟩
end Go.Proofs.Ytebcginnnjigjaa

end
