/- Sets: those of both, those that are not in the other one; one less, by the reference. -/
import Derived.Test.YtiolfnnkkflaiaaDoorBits2
import Derived.Test.YtiolfnnkkflaiaaDoorArrEq
open Go.RowKit
namespace Go.Proofs.YtiolfnnkkflaiaaDoor

theorem sdelZ_no {a b : Nat} {i : Int} (ha : a < 18446744073709551616) (hb : b < 18446744073709551616) (h : hasZ a b i = false) : sdelZ a b i = (a, b) := by
  unfold sdelZ
  split
  · rename_i hi
    obtain ⟨n, rfl⟩ := Int.eq_ofNat_of_zero_le hi.1
    rw [hasZ_in (by omega)] at h
    rw [Int.toNat_natCast]
    have hlt := sdel_lt a b n ha hb
    have hh := fun j => has_sdel a b n j ha hb (by omega)
    have e (j : Nat) : has (sdel a b n).1 (sdel a b n).2 j = has a b j := by
      rw [hh j]
      by_cases hj : j = n
      · subst hj; simp [h]
      · simp [hj]
    obtain ⟨h1, h2⟩ := ofBits_has (has a b) (sdel a b n).1 (sdel a b n).2 hlt.1 hlt.2 (fun k _ => (e k).symm)
    obtain ⟨h3, h4⟩ := ofBits_has (has a b) a b ha hb (fun k _ => rfl)
    exact Prod.ext (h1.symm.trans h3) (h2.symm.trans h4)
  · rfl
theorem ofBits_without (a b i : Nat) (ha : a < 18446744073709551616) (hb : b < 18446744073709551616) (hi : i < 128) :
    ofBits (at_ ((tell a b 128).set i false)) 64 = (sdel a b i).1 ∧ ofBits (fun j => at_ ((tell a b 128).set i false) (64 + j)) 64 = (sdel a b i).2 := by
  obtain ⟨l1, l2⟩ := sdel_lt a b i ha hb
  refine ofBits_has _ _ _ l1 l2 fun k hk => ?_
  rw [has_sdel a b i k ha hb hi]
  have h0 := at_tell a b k hk
  unfold at_ at h0 ⊢
  rw [List.getD_eq_getElem?_getD] at h0 ⊢
  rw [List.getElem?_set]
  by_cases h : i = k
  · subst h; simp [tell_length, hi]
  · have h' : k ≠ i := fun e => h e.symm
    simp [h, h', h0]

set_option maxHeartbeats 1000000 in
set_option maxRecDepth 100000 in
theorem refWithout_any (a b : Nat) (i : Int) (ha : a < 18446744073709551616) (hb : b < 18446744073709551616) (w : World) :
    Calls Tryd.prog 12 #[.agg #[.int .u64 a, .int .u64 b], .int .i64 i] w fun e w' => e = .returned (.agg #[.int .u64 ((sdelZ a b i).1 : Nat), .int .u64 ((sdelZ a b i).2 : Nat)]) ∧ Below w.heap.size w w' := by
  obtain ⟨hb1, hg1, hg2, hs1⟩ := alloc2 w #[.int .u64 a, .int .u64 b] 30 #[.int .u64 0, .int .u64 0] 30
  have HH := Lib.hid (refHas_any a b i ha hb)
  have HT := Lib.hid (told_any a b ha hb)
  have Hno := Lib.hid (sdelZ_no (i := i) ha hb)
  have Hyes : Hid (hasZ a b i = true → ∃ n : Nat, n < 128 ∧ i = (n : Int) ∧ sdelZ a b i = sdel a b n) := Lib.hid fun h => by
    unfold hasZ at h
    split at h
    · rename_i hi
      exact ⟨i.toNat, by omega, by omega, by unfold sdelZ; rw [if_pos hi]⟩
    · cases h
  have Hof := Lib.hid fun n => ofBits_without a b n ha hb
  clear ha hb
  go_enter Tryd.func12, Tryd.ntmps12
  go_wp2_with fail
  generalize (w.alloc (.cells #[.int .u64 a, .int .u64 b] 30)).alloc (.cells #[.int .u64 0, .int .u64 0] 30) = w1 at hb1 hg1 hg2 hs1 ⊢
  have Hb1 := Lib.hid hb1
  have Hg1 := Lib.hid hg1
  have Hg2 := Lib.hid hg2
  have Hs1 := Lib.hid (show w.heap.size + 2 ≤ w1.heap.size by omega)
  clear hb1 hg1 hg2 hs1
  refine (HH.out w1).mono ?_
  rintro e w2 ⟨rfl, hb2⟩
  have hs := Hs1.out
  have G1 := (hb2.block w.heap.size (by omega)).trans Hg1.out
  have G2 := (hb2.block (w.heap.size + 1) (by omega)).trans Hg2.out
  have Hb2 := Lib.hid (Hb1.out.trans (hb2.mono (B' := w.heap.size) (by omega)))
  have Hs2 := Lib.hid (show w.heap.size + 2 ≤ w2.heap.size from Nat.le_trans hs hb2.size)
  clear hb2 hs
  cases hh : hasZ a b i with
  | false =>
    have Hz := Lib.hid (Hno.out hh)
    obtain ⟨c0, c1, _, _⟩ := cells2 G1
    obtain ⟨c2, c3, f2, f3⟩ := cells2 G2
    have E := Lib.hid (set2 G2 (.int .u64 a) (.int .u64 b))
    clear hh G1 G2
    go_wp2_with fail
    try simp only [Exit.inBlock, Exit.then]
    exact bodyPost_ret (results_cell_row rfl _ _ (w.heap.size + 1) _ _ _ _ rfl E.out Tryd.underlying30 rfl (by kernel_rfl)) rfl ⟨by rw [Hz.out], below_set2 Hb2.out (Nat.le_succ _) _ _⟩
  | true =>
    obtain ⟨n, hn, rfl, hz⟩ := Hyes.out hh
    have Hz := Lib.hid hz
    obtain ⟨c0, c1, _, _⟩ := cells2 G1
    have H2 := Lib.hid G2
    clear hh G1 G2 hz
    go_wp2_with fail
    clear c0 c1
    refine (HT.out w2).mono ?_
    rintro e w3 ⟨A, c, rfl, ho, hb3⟩
    have hl2 : (lv (tell a b 128)).length = 128 := by rw [lv_length, tell_length]
    obtain ⟨g, rfl, hg, hg'⟩ := ho.form (by omega)
    have hcell : w3.cell? ⟨g, n, none⟩ = some (lv (tell a b 128))[n] := ho.cell (by omega)
    have hfro := ho.frozen n
    have Ho := Lib.hid (ho.set n (.bool false))
    have Hb3 := Lib.hid ((Hb2.out.trans (hb3.mono (by have := Hs2.out; omega))).setCell (p := ⟨g, n, none⟩) (show w.heap.size ≤ g by have := Hs2.out; omega) (.bool false))
    have Hg3 := Lib.hid ((heap_setCell_other w3 ⟨g, n, none⟩ (w.heap.size + 1) (.bool false) (show w.heap.size + 1 ≠ g by have := Hs2.out; omega)).trans ((hb3.block (w.heap.size + 1) (by have := Hs2.out; omega)).trans H2.out))
    have Hs3 : Hid (w.heap.size + 2 ≤ (w3.setCell ⟨g, n, none⟩ (.bool false)).heap.size) := Lib.hid (by rw [size_set]; exact Nat.le_trans Hs2.out hb3.size)
    clear ho hb3 hg hg' hl2
    go_wp2_with fail
    generalize w3.setCell ⟨g, n, none⟩ (.bool false) = w4 at Ho Hb3 Hg3 Hs3 ⊢
    clear hcell hfro
    have hset : (lv (tell a b 128)).set n (.bool false) = lv ((tell a b 128).set n false) := by simp [lv, List.map_set]
    have hr := Ho.out.reads
    rw [hset] at hr
    rw [lv_length, List.length_set, tell_length] at hr
    refine (made_any (some ⟨g, 0, none⟩) ((tell a b 128).set n false) c (by rw [List.length_set, tell_length]) w4 hr).mono ?_
    rintro e w5 ⟨rfl, hb5⟩
    obtain ⟨e1, e2⟩ := Hof.out n hn
    rw [e1, e2]
    have Hb5 := Lib.hid (Hb3.out.trans (hb5.mono (B' := w.heap.size) (by have := Hs3.out; omega)))
    have G5 := (hb5.block (w.heap.size + 1) (by have := Hs3.out; omega)).trans Hg3.out
    obtain ⟨c2, c3, f2, f3⟩ := cells2 G5
    have E := Lib.hid (set2 G5 (.int .u64 ((sdel a b n).1 : Nat)) (.int .u64 ((sdel a b n).2 : Nat)))
    clear hb5 hset hr e1 e2 Ho G5
    go_wp2_with fail
    try simp only [Exit.inBlock, Exit.then]
    exact bodyPost_ret (results_cell_row rfl _ _ (w.heap.size + 1) _ _ _ _ rfl E.out Tryd.underlying30 rfl (by kernel_rfl)) rfl ⟨by rw [Hz.out], below_set2 Hb5.out (Nat.le_succ _) _ _⟩

/-! ### Or, Minus: the code's -/
theorem u64_or (a b : Nat) (ha : a < 18446744073709551616) (hb : b < 18446744073709551616) : bits BinOp.or IntKind.u64 (a : Int) (b : Int) = ((a ||| b : Nat) : Int) := bits_or_u64_nat a b ha hb
theorem u64_andn (a b : Nat) (ha : a < 18446744073709551616) (hb : b < 18446744073709551616) : bits BinOp.andNot IntKind.u64 (a : Int) (b : Int) = ((andn a b : Nat) : Int) := u64_andNot_nat a b ha hb

set_option maxHeartbeats 1000000 in
set_option maxRecDepth 100000 in
theorem bitsOrNe_any (a b c d : Nat) (ha : a < 18446744073709551616) (hb : b < 18446744073709551616) (hc : c < 18446744073709551616) (hd : d < 18446744073709551616) (hne : ¬ (a = c ∧ b = d)) (w : World) :
    Calls Tryd.prog 19 #[.agg #[.int .u64 a, .int .u64 b], .agg #[.int .u64 c, .int .u64 d]] w fun e w' => e = .returned (.agg #[.int .u64 ((a ||| c) : Nat), .int .u64 ((b ||| d) : Nat)]) ∧ Below w.heap.size w w' := by
  obtain ⟨hb1, hg1, hg2, hg3, hs1⟩ := alloc3 w #[.int .u64 a, .int .u64 b] 26 #[.int .u64 c, .int .u64 d] 26 #[.int .u64 0, .int .u64 0] 26
  have k1 := u64_or a c ha hc
  have k2 := u64_or b d hb hd
  generalize (a ||| c) = x at k1 ⊢
  generalize (b ||| d) = y at k2 ⊢
  have qe := eql_u2 (P := Tryd.prog) Tryd.underlying26 Tryd.underlying23 (by kernel_rfl) (by kernel_rfl) (by kernel_rfl) (a : Int) (b : Int) (c : Int) (d : Int)
  have hne2 : ((a : Int) == (c : Int) && (b : Int) == (d : Int)) = false := Bool.eq_false_iff.2 fun h => hne (by simp at h; omega)
  rw [hne2] at qe
  obtain ⟨i0, i1, _, _⟩ := cells2 hg1
  obtain ⟨j0, j1, _, _⟩ := cells2 hg2
  clear hne hne2
  clear ha hb hc hd
  go_enter Tryd.func19, Tryd.ntmps19
  go_wp2_with fail
  clear qe i0 i1 j0 j1
  generalize ((w.alloc (.cells #[.int .u64 a, .int .u64 b] 26)).alloc (.cells #[.int .u64 c, .int .u64 d] 26)).alloc (.cells #[.int .u64 0, .int .u64 0] 26) = w1 at hb1 hg1 hg2 hg3 hs1 ⊢
  have Hb1 := Lib.hid hb1
  have Hg1 := Lib.hid hg1
  have Hg2 := Lib.hid hg2
  have Hg3 := Lib.hid hg3
  clear hb1 hg1 hg2 hg3 hs1
  refine wp_loop_rounds 3 ?_
  rw [rounds_succ]
  obtain ⟨c0, c1, f0, f1⟩ := cells2 Hg1.out
  obtain ⟨d0, d1, _, _⟩ := cells2 Hg2.out
  go_wp2_with fail
  have l0 := fun w' (hk : KeepsBut [] w1.drew w') => hk.cell (p := ⟨w.heap.size, 0, none⟩) (v := .int .u64 a) c0 (by simp)
  have l1 := fun w' (hk : KeepsBut [] w1.drew w') => hk.cell (p := ⟨w.heap.size + 1, 0, none⟩) (v := .int .u64 c) d0 (by simp)
  refine wp_region_mix (KeepsBut []) (KeepsBut.refl []) (KeepsBut.trans []) [8] [(true, 0), (true, 1), (true, 2), (true, 3), (true, 4), (true, 5), (true, 6), (true, 7), (false, 8)] (by kernel_rfl) (by kernel_rfl) (fun d _ _ _ _ h => by cases d <;> exact h) ?_
  repeat (first
    | (refine mix_pure (v := ?_) rfl rfl ?_ (mix_norm (a' := ?_) ?_ ?_)
       rotate_left
       focus (intro w' hR; go_simp; first | done | (with_reducible rfl))
       rotate_left
       focus (simp only [Act.put, List.getElem_toArray, List.getElem_cons_zero, List.getElem_cons_succ, List.setIfInBounds_toArray, List.set_cons_zero, List.set_cons_succ]; rfl))
    | (refine mix_off rfl rfl (mix_norm (a' := ?_) ?_ ?_)
       rotate_left
       focus (simp only [Act.put, List.getElem_toArray, List.getElem_cons_zero, List.getElem_cons_succ, List.setIfInBounds_toArray, List.set_cons_zero, List.set_cons_succ]; rfl)))
  clear l0 l1
  refine mix_eff rfl ?_
  simp only [List.getElem_toArray, List.getElem_cons_zero, List.getElem_cons_succ]
  go_wp2_with fail
  refine mixQ_last (by simp) rfl ?_
  refine mix_done ?_
  have e1 := Lib.hid (heap_setCell_same w1 w.heap.size 0 _ _ (.int .u64 x) Hg1.out)
  have e2 := Lib.hid ((heap_setCell_other w1 ⟨w.heap.size, 0, none⟩ (w.heap.size + 1) (.int .u64 x) (by simp)).trans Hg2.out)
  have e3 := Lib.hid ((heap_setCell_other w1 ⟨w.heap.size, 0, none⟩ (w.heap.size + 2) (.int .u64 x) (by simp)).trans Hg3.out)
  have Hbn := Lib.hid (Hb1.out.setCell (p := ⟨w.heap.size, 0, none⟩) (Nat.le_refl _) (.int .u64 x)).drew
  clear Hg2 Hg3 Hb1 c0 c1 d0 d1 f0 f1
  change Hid (Below _ _ (w1.setCell ⟨w.heap.size, 0, none⟩ (.int .u64 x)).drew) at Hbn
  generalize hw0 : (w1.setCell ⟨w.heap.size, 0, none⟩ (.int .u64 x)).drew = w2 at Hbn ⊢
  have Hg10 : Hid (w2.heap[w.heap.size]? = some (.cells #[.int .u64 x, .int .u64 b] 26 (0, 0))) := Lib.hid (by rw [← hw0]; exact e1.out)
  have Hg2 : Hid (w2.heap[w.heap.size + 1]? = some (.cells #[.int .u64 c, .int .u64 d] 26 (0, 0))) := Lib.hid (by rw [← hw0]; exact e2.out)
  have Hg3 : Hid (w2.heap[w.heap.size + 2]? = some (.cells #[.int .u64 0, .int .u64 0] 26 (0, 0))) := Lib.hid (by rw [← hw0]; exact e3.out)
  have Hb1 := Hbn
  clear hw0 Hbn e1 e2 e3
  go_wp2_with fail
  rw [rounds_succ]
  obtain ⟨c0, c1, f0, f1⟩ := cells2 Hg10.out
  obtain ⟨d0, d1, _, _⟩ := cells2 Hg2.out
  go_wp2_with fail
  have l0 := fun w' (hk : KeepsBut [] w2.drew w') => hk.cell (p := ⟨w.heap.size, 1, none⟩) (v := .int .u64 b) c1 (by simp)
  have l1 := fun w' (hk : KeepsBut [] w2.drew w') => hk.cell (p := ⟨w.heap.size + 1, 1, none⟩) (v := .int .u64 d) d1 (by simp)
  refine wp_region_mix (KeepsBut []) (KeepsBut.refl []) (KeepsBut.trans []) [8] [(true, 0), (true, 1), (true, 2), (true, 3), (true, 4), (true, 5), (true, 6), (true, 7), (false, 8)] (by kernel_rfl) (by kernel_rfl) (fun d _ _ _ _ h => by cases d <;> exact h) ?_
  repeat (first
    | (refine mix_pure (v := ?_) rfl rfl ?_ (mix_norm (a' := ?_) ?_ ?_)
       rotate_left
       focus (intro w' hR; go_simp; first | done | (with_reducible rfl))
       rotate_left
       focus (simp only [Act.put, List.getElem_toArray, List.getElem_cons_zero, List.getElem_cons_succ, List.setIfInBounds_toArray, List.set_cons_zero, List.set_cons_succ]; rfl))
    | (refine mix_off rfl rfl (mix_norm (a' := ?_) ?_ ?_)
       rotate_left
       focus (simp only [Act.put, List.getElem_toArray, List.getElem_cons_zero, List.getElem_cons_succ, List.setIfInBounds_toArray, List.set_cons_zero, List.set_cons_succ]; rfl)))
  clear l0 l1
  refine mix_eff rfl ?_
  simp only [List.getElem_toArray, List.getElem_cons_zero, List.getElem_cons_succ]
  go_wp2_with fail
  refine mixQ_last (by simp) rfl ?_
  refine mix_done ?_
  have e1 := Lib.hid (heap_setCell_same w2 w.heap.size 1 _ _ (.int .u64 y) Hg10.out)
  have e2 := Lib.hid ((heap_setCell_other w2 ⟨w.heap.size, 1, none⟩ (w.heap.size + 1) (.int .u64 y) (by simp)).trans Hg2.out)
  have e3 := Lib.hid ((heap_setCell_other w2 ⟨w.heap.size, 1, none⟩ (w.heap.size + 2) (.int .u64 y) (by simp)).trans Hg3.out)
  have Hbn := Lib.hid (Hb1.out.setCell (p := ⟨w.heap.size, 1, none⟩) (Nat.le_refl _) (.int .u64 y)).drew
  clear Hg2 Hg3 Hb1 c0 c1 d0 d1 f0 f1
  change Hid (Below _ _ (w2.setCell ⟨w.heap.size, 1, none⟩ (.int .u64 y)).drew) at Hbn
  generalize hw1 : (w2.setCell ⟨w.heap.size, 1, none⟩ (.int .u64 y)).drew = w3 at Hbn ⊢
  have Hg11 : Hid (w3.heap[w.heap.size]? = some (.cells #[.int .u64 x, .int .u64 y] 26 (0, 0))) := Lib.hid (by rw [← hw1]; exact e1.out)
  have Hg2 : Hid (w3.heap[w.heap.size + 1]? = some (.cells #[.int .u64 c, .int .u64 d] 26 (0, 0))) := Lib.hid (by rw [← hw1]; exact e2.out)
  have Hg3 : Hid (w3.heap[w.heap.size + 2]? = some (.cells #[.int .u64 0, .int .u64 0] 26 (0, 0))) := Lib.hid (by rw [← hw1]; exact e3.out)
  have Hb1 := Hbn
  clear hw1 Hbn e1 e2 e3
  go_wp2_with fail
  rw [rounds_succ]
  obtain ⟨c0, c1, _, _⟩ := cells2 Hg11.out
  obtain ⟨c2, c3, f2, f3⟩ := cells2 Hg3.out
  have E := Lib.hid (set2 Hg3.out (.int .u64 x) (.int .u64 y))
  go_wp2_with fail
  try simp only [Exit.inBlock, Exit.then]
  exact bodyPost_ret (results_cell_row rfl _ _ (w.heap.size + 2) _ _ _ _ rfl E.out Tryd.underlying26 rfl (by kernel_rfl)) rfl ⟨rfl, below_set2 Hb1.out (by omega) _ _⟩

set_option maxHeartbeats 1000000 in
set_option maxRecDepth 100000 in
theorem bitsMinus_any (a b c d : Nat) (ha : a < 18446744073709551616) (hb : b < 18446744073709551616) (hc : c < 18446744073709551616) (hd : d < 18446744073709551616) (w : World) :
    Calls Tryd.prog 21 #[.agg #[.int .u64 a, .int .u64 b], .agg #[.int .u64 c, .int .u64 d]] w fun e w' => e = .returned (.agg #[.int .u64 ((andn a c) : Nat), .int .u64 ((andn b d) : Nat)]) ∧ Below w.heap.size w w' := by
  obtain ⟨hb1, hg1, hg2, hg3, hs1⟩ := alloc3 w #[.int .u64 a, .int .u64 b] 26 #[.int .u64 c, .int .u64 d] 26 #[.int .u64 0, .int .u64 0] 26
  have k1 := u64_andn a c ha hc
  have k2 := u64_andn b d hb hd
  generalize (andn a c) = x at k1 ⊢
  generalize (andn b d) = y at k2 ⊢
  clear ha hb hc hd
  go_enter Tryd.func21, Tryd.ntmps21
  go_wp2_with fail
  generalize ((w.alloc (.cells #[.int .u64 a, .int .u64 b] 26)).alloc (.cells #[.int .u64 c, .int .u64 d] 26)).alloc (.cells #[.int .u64 0, .int .u64 0] 26) = w1 at hb1 hg1 hg2 hg3 hs1 ⊢
  have Hb1 := Lib.hid hb1
  have Hg1 := Lib.hid hg1
  have Hg2 := Lib.hid hg2
  have Hg3 := Lib.hid hg3
  clear hb1 hg1 hg2 hg3 hs1
  refine wp_loop_rounds 3 ?_
  rw [rounds_succ]
  obtain ⟨c0, c1, f0, f1⟩ := cells2 Hg1.out
  obtain ⟨d0, d1, _, _⟩ := cells2 Hg2.out
  go_wp2_with fail
  have l0 := fun w' (hk : KeepsBut [] w1.drew w') => hk.cell (p := ⟨w.heap.size, 0, none⟩) (v := .int .u64 a) c0 (by simp)
  have l1 := fun w' (hk : KeepsBut [] w1.drew w') => hk.cell (p := ⟨w.heap.size + 1, 0, none⟩) (v := .int .u64 c) d0 (by simp)
  refine wp_region_mix (KeepsBut []) (KeepsBut.refl []) (KeepsBut.trans []) [8] [(true, 0), (true, 1), (true, 2), (true, 3), (true, 4), (true, 5), (true, 6), (true, 7), (false, 8)] (by kernel_rfl) (by kernel_rfl) (fun d _ _ _ _ h => by cases d <;> exact h) ?_
  repeat (first
    | (refine mix_pure (v := ?_) rfl rfl ?_ (mix_norm (a' := ?_) ?_ ?_)
       rotate_left
       focus (intro w' hR; go_simp; first | done | (with_reducible rfl))
       rotate_left
       focus (simp only [Act.put, List.getElem_toArray, List.getElem_cons_zero, List.getElem_cons_succ, List.setIfInBounds_toArray, List.set_cons_zero, List.set_cons_succ]; rfl))
    | (refine mix_off rfl rfl (mix_norm (a' := ?_) ?_ ?_)
       rotate_left
       focus (simp only [Act.put, List.getElem_toArray, List.getElem_cons_zero, List.getElem_cons_succ, List.setIfInBounds_toArray, List.set_cons_zero, List.set_cons_succ]; rfl)))
  clear l0 l1
  refine mix_eff rfl ?_
  simp only [List.getElem_toArray, List.getElem_cons_zero, List.getElem_cons_succ]
  go_wp2_with fail
  refine mixQ_last (by simp) rfl ?_
  refine mix_done ?_
  have e1 := Lib.hid (heap_setCell_same w1 w.heap.size 0 _ _ (.int .u64 x) Hg1.out)
  have e2 := Lib.hid ((heap_setCell_other w1 ⟨w.heap.size, 0, none⟩ (w.heap.size + 1) (.int .u64 x) (by simp)).trans Hg2.out)
  have e3 := Lib.hid ((heap_setCell_other w1 ⟨w.heap.size, 0, none⟩ (w.heap.size + 2) (.int .u64 x) (by simp)).trans Hg3.out)
  have Hbn := Lib.hid (Hb1.out.setCell (p := ⟨w.heap.size, 0, none⟩) (Nat.le_refl _) (.int .u64 x)).drew
  clear Hg2 Hg3 Hb1 c0 c1 d0 d1 f0 f1
  change Hid (Below _ _ (w1.setCell ⟨w.heap.size, 0, none⟩ (.int .u64 x)).drew) at Hbn
  generalize hw0 : (w1.setCell ⟨w.heap.size, 0, none⟩ (.int .u64 x)).drew = w2 at Hbn ⊢
  have Hg10 : Hid (w2.heap[w.heap.size]? = some (.cells #[.int .u64 x, .int .u64 b] 26 (0, 0))) := Lib.hid (by rw [← hw0]; exact e1.out)
  have Hg2 : Hid (w2.heap[w.heap.size + 1]? = some (.cells #[.int .u64 c, .int .u64 d] 26 (0, 0))) := Lib.hid (by rw [← hw0]; exact e2.out)
  have Hg3 : Hid (w2.heap[w.heap.size + 2]? = some (.cells #[.int .u64 0, .int .u64 0] 26 (0, 0))) := Lib.hid (by rw [← hw0]; exact e3.out)
  have Hb1 := Hbn
  clear hw0 Hbn e1 e2 e3
  go_wp2_with fail
  rw [rounds_succ]
  obtain ⟨c0, c1, f0, f1⟩ := cells2 Hg10.out
  obtain ⟨d0, d1, _, _⟩ := cells2 Hg2.out
  go_wp2_with fail
  have l0 := fun w' (hk : KeepsBut [] w2.drew w') => hk.cell (p := ⟨w.heap.size, 1, none⟩) (v := .int .u64 b) c1 (by simp)
  have l1 := fun w' (hk : KeepsBut [] w2.drew w') => hk.cell (p := ⟨w.heap.size + 1, 1, none⟩) (v := .int .u64 d) d1 (by simp)
  refine wp_region_mix (KeepsBut []) (KeepsBut.refl []) (KeepsBut.trans []) [8] [(true, 0), (true, 1), (true, 2), (true, 3), (true, 4), (true, 5), (true, 6), (true, 7), (false, 8)] (by kernel_rfl) (by kernel_rfl) (fun d _ _ _ _ h => by cases d <;> exact h) ?_
  repeat (first
    | (refine mix_pure (v := ?_) rfl rfl ?_ (mix_norm (a' := ?_) ?_ ?_)
       rotate_left
       focus (intro w' hR; go_simp; first | done | (with_reducible rfl))
       rotate_left
       focus (simp only [Act.put, List.getElem_toArray, List.getElem_cons_zero, List.getElem_cons_succ, List.setIfInBounds_toArray, List.set_cons_zero, List.set_cons_succ]; rfl))
    | (refine mix_off rfl rfl (mix_norm (a' := ?_) ?_ ?_)
       rotate_left
       focus (simp only [Act.put, List.getElem_toArray, List.getElem_cons_zero, List.getElem_cons_succ, List.setIfInBounds_toArray, List.set_cons_zero, List.set_cons_succ]; rfl)))
  clear l0 l1
  refine mix_eff rfl ?_
  simp only [List.getElem_toArray, List.getElem_cons_zero, List.getElem_cons_succ]
  go_wp2_with fail
  refine mixQ_last (by simp) rfl ?_
  refine mix_done ?_
  have e1 := Lib.hid (heap_setCell_same w2 w.heap.size 1 _ _ (.int .u64 y) Hg10.out)
  have e2 := Lib.hid ((heap_setCell_other w2 ⟨w.heap.size, 1, none⟩ (w.heap.size + 1) (.int .u64 y) (by simp)).trans Hg2.out)
  have e3 := Lib.hid ((heap_setCell_other w2 ⟨w.heap.size, 1, none⟩ (w.heap.size + 2) (.int .u64 y) (by simp)).trans Hg3.out)
  have Hbn := Lib.hid (Hb1.out.setCell (p := ⟨w.heap.size, 1, none⟩) (Nat.le_refl _) (.int .u64 y)).drew
  clear Hg2 Hg3 Hb1 c0 c1 d0 d1 f0 f1
  change Hid (Below _ _ (w2.setCell ⟨w.heap.size, 1, none⟩ (.int .u64 y)).drew) at Hbn
  generalize hw1 : (w2.setCell ⟨w.heap.size, 1, none⟩ (.int .u64 y)).drew = w3 at Hbn ⊢
  have Hg11 : Hid (w3.heap[w.heap.size]? = some (.cells #[.int .u64 x, .int .u64 y] 26 (0, 0))) := Lib.hid (by rw [← hw1]; exact e1.out)
  have Hg2 : Hid (w3.heap[w.heap.size + 1]? = some (.cells #[.int .u64 c, .int .u64 d] 26 (0, 0))) := Lib.hid (by rw [← hw1]; exact e2.out)
  have Hg3 : Hid (w3.heap[w.heap.size + 2]? = some (.cells #[.int .u64 0, .int .u64 0] 26 (0, 0))) := Lib.hid (by rw [← hw1]; exact e3.out)
  have Hb1 := Hbn
  clear hw1 Hbn e1 e2 e3
  go_wp2_with fail
  rw [rounds_succ]
  obtain ⟨c0, c1, _, _⟩ := cells2 Hg11.out
  obtain ⟨c2, c3, f2, f3⟩ := cells2 Hg3.out
  have E := Lib.hid (set2 Hg3.out (.int .u64 x) (.int .u64 y))
  go_wp2_with fail
  try simp only [Exit.inBlock, Exit.then]
  exact bodyPost_ret (results_cell_row rfl _ _ (w.heap.size + 2) _ _ _ _ rfl E.out Tryd.underlying26 rfl (by kernel_rfl)) rfl ⟨rfl, below_set2 Hb1.out (by omega) _ _⟩

end Go.Proofs.YtiolfnnkkflaiaaDoor
