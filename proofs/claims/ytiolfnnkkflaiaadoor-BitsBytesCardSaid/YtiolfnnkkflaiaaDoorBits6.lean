/- Sets: one more, out of bounds; some numbers, by the reference. -/
import Derived.Test.YtiolfnnkkflaiaaDoorBits5
import Derived.Test.YtiolfnnkkflaiaaDoorKeep
import Derived.Test.YtiolfnnkkflaiaaDoorFork
open Go.RowKit
namespace Go.Proofs.YtiolfnnkkflaiaaDoor

/-- One more, or why not. -/
def withZ (a b : Nat) (i : Int) : Nat × Nat × Nat := if 0 ≤ i ∧ i < 128 then ((sput a b i.toNat).1, (sput a b i.toNat).2, 0) else (0, 0, 3)
theorem withZ_in {a b n : Nat} (h : n < 128) : withZ a b (n : Int) = ((sput a b n).1, (sput a b n).2, 0) := by unfold withZ; rw [if_pos (by omega), Int.toNat_natCast]
theorem withZ_out {a b : Nat} {i : Int} (h : i < 0 ∨ 128 ≤ i) : withZ a b i = (0, 0, 3) := by unfold withZ; rw [if_neg (by omega)]
theorem withZ_lt (a b : Nat) (i : Int) (ha : a < 18446744073709551616) (hb : b < 18446744073709551616) : (withZ a b i).1 < 18446744073709551616 ∧ (withZ a b i).2.1 < 18446744073709551616 := by
  unfold withZ
  split
  · exact sput_lt a b _ ha hb (by omega)
  · exact ⟨by show 0 < _; omega, by show 0 < _; omega⟩
theorem ofS_step (i : Int) (l : List Int) (x y : Nat) : ofS (i :: l) x y = if (withZ x y i).2.2 = 0 then ofS l (withZ x y i).1 (withZ x y i).2.1 else withZ x y i := by
  by_cases h : 0 ≤ i ∧ i < 128
  · obtain ⟨n, rfl⟩ := Int.eq_ofNat_of_zero_le h.1
    rw [ofS_in _ _ _ _ h, withZ_in (by omega), Int.toNat_natCast]; rfl
  · rw [ofS_out _ _ _ _ h, withZ_out (by omega)]; rfl

set_option maxRecDepth 100000 in
theorem refWith_out (a b : Nat) (i : Int) (hi : i < 0 ∨ 128 ≤ i) (w : World) :
    Calls Tryd.prog 10 #[.agg #[.int .u64 a, .int .u64 b], .int .i64 i] w fun e w' => e = .returned (.tuple #[.agg #[.int .u64 0, .int .u64 0], .int .i64 3]) ∧ Below w.heap.size w w' := by
  obtain ⟨hb1, hg1, hg2, hs1⟩ := alloc2 w #[.int .u64 a, .int .u64 b] 30 #[.int .u64 0, .int .u64 0] 30
  have E := Lib.hid hg2
  have Hb1 := Lib.hid hb1
  clear hb1 hg1 hg2 hs1
  rcases hi with hi | hi
  · go_enter Tryd.func10, Tryd.ntmps10
    go_wp2_with fail
    try simp only [Exit.inBlock, Exit.then]
    exact bodyPost_ret (results_cell_tmp_row rfl _ _ (w.heap.size + 1) _ _ _ _ rfl E.out Tryd.underlying30 rfl (by kernel_rfl)) rfl ⟨rfl, Hb1.out⟩
  · have h0 : ¬ i < 0 := by omega
    go_enter Tryd.func10, Tryd.ntmps10
    go_wp2_with fail
    try simp only [Exit.inBlock, Exit.then]
    exact bodyPost_ret (results_cell_tmp_row rfl _ _ (w.heap.size + 1) _ _ _ _ rfl E.out Tryd.underlying30 rfl (by kernel_rfl)) rfl ⟨rfl, Hb1.out⟩
theorem refWithZ_any (a b : Nat) (i : Int) (ha : a < 18446744073709551616) (hb : b < 18446744073709551616) (w : World) :
    Calls Tryd.prog 10 #[.agg #[.int .u64 a, .int .u64 b], .int .i64 i] w fun e w' => e = .returned (.tuple #[.agg #[.int .u64 ((withZ a b i).1 : Nat), .int .u64 ((withZ a b i).2.1 : Nat)], .int .i64 ((withZ a b i).2.2 : Nat)]) ∧ Below w.heap.size w w' := by
  by_cases h : 0 ≤ i ∧ i < 128
  · obtain ⟨n, rfl⟩ := Int.eq_ofNat_of_zero_le h.1
    rw [withZ_in (by omega)]
    exact refWith_any a b n ha hb (by omega) w
  · rw [withZ_out (by omega)]
    exact refWith_out a b i (by omega) w
theorem bitsWithZ_any (a b : Nat) (i : Int) (ha : a < 18446744073709551616) (hb : b < 18446744073709551616) (w : World) :
    Calls Tryd.prog 9 #[.agg #[.int .u64 a, .int .u64 b], .int .i64 i] w fun e w' => e = .returned (.tuple #[.agg #[.int .u64 ((withZ a b i).1 : Nat), .int .u64 ((withZ a b i).2.1 : Nat)], .int .i64 ((withZ a b i).2.2 : Nat)]) ∧ Below w.heap.size w w' := by
  by_cases h : 0 ≤ i ∧ i < 128
  · obtain ⟨n, rfl⟩ := Int.eq_ofNat_of_zero_le h.1
    rw [withZ_in (by omega)]
    exact bitsWith_any a b n ha hb (by omega) w
  · rw [withZ_out (by omega)]
    exact bitsWith_out a b i (by omega) w

set_option maxHeartbeats 1000000 in
set_option maxRecDepth 100000 in
theorem refOf_any (A : Option Addr) (l : List Int) (c : Nat) (w : World) (hr : Reads w 1 A l.length (zv l)) (hm : l.length ≤ 100000) :
    Calls Tryd.prog 8 #[.slice A l.length c] w fun e w' => e = .returned (.tuple #[.agg #[.int .u64 ((ofS l 0 0).1 : Nat), .int .u64 ((ofS l 0 0).2.1 : Nat)], .int .i64 ((ofS l 0 0).2.2 : Nat)]) ∧ Below w.heap.size w w' := by
  have Hr := Lib.hid hr
  have Hm := Lib.hid hm
  clear hr hm
  obtain ⟨hb1, hg1, hg2, hs1⟩ := alloc2 w #[.int .u64 0, .int .u64 0] 30 #[.int .u64 0, .int .u64 0] 30
  go_enter Tryd.func8, Tryd.ntmps8
  go_wp2_with fail
  generalize (w.alloc (.cells #[.int .u64 0, .int .u64 0] 30)).alloc (.cells #[.int .u64 0, .int .u64 0] 30) = w1 at hb1 hg1 hg2 hs1 ⊢
  have Hb1 := Lib.hid hb1
  have Hg0 := Lib.hid hg1
  have Hg1 := Lib.hid hg2
  have Hs1 := Lib.hid (show w.heap.size + 2 ≤ w1.heap.size by omega)
  clear hb1 hg1 hg2 hs1
  go_loopw [5] (fun i wr => ∃ (k x y : Nat), k ≤ l.length ∧ i = .int .i64 k ∧ Hid (x < 18446744073709551616 ∧ y < 18446744073709551616) ∧ Hid (ofS (l.drop k) x y = ofS l 0 0) ∧ Hid (wr.heap[w.heap.size]? = some (.cells #[.int .u64 0, .int .u64 0] 30 (0, 0))) ∧ Hid (wr.heap[w.heap.size + 1]? = some (.cells #[.int .u64 x, .int .u64 y] 30 (0, 0))) ∧ Hid (w.heap.size + 2 ≤ wr.heap.size) ∧ Hid (Below w.heap.size w wr)) (fun i _ => l.length - (intOf i).toNat)
  case atStart => exact ⟨0, 0, 0, Nat.zero_le _, rfl, ⟨by omega, by omega⟩, rfl, Hg0, Hg1, Hs1, Hb1⟩
  case round =>
    clear Hg0 Hg1 Hb1 Hs1
    obtain ⟨k, x, y, hk, rfl, Hxy, Hof, Hg0, Hg1, Hs1, Hb1⟩ := hrel
    have hkm : k ≤ 100000 := Nat.le_trans hk Hm.out
    by_cases hlt : k < l.length
    · obtain ⟨ad, rfl, hcell⟩ := (Hr.out.below Hb1.out).at_ (k := k) hlt (zv_get l k hlt)
      have hdrop : l.drop k = l[k] :: l.drop (k + 1) := List.drop_eq_getElem_cons hlt
      have Hst := Lib.hid (ofS_step l[k] (l.drop (k + 1)) x y)
      rw [← hdrop] at Hst
      have Hst : Hid (ofS l 0 0 = if (withZ x y l[k]).2.2 = 0 then ofS (l.drop (k + 1)) (withZ x y l[k]).1 (withZ x y l[k]).2.1 else withZ x y l[k]) := Lib.hid (Hof.out.symm.trans Hst.out)
      have Hlt := Lib.hid (withZ_lt x y l[k] Hxy.out.1 Hxy.out.2)
      have HW := Lib.hid (refWithZ_any x y l[k] Hxy.out.1 Hxy.out.2)
      generalize l[k] = v at hcell Hst Hlt HW
      clear hdrop
      have hz : (withZ x y v).2.2 = 0 ∨ withZ x y v = (0, 0, 3) := by
        unfold withZ; split
        · exact .inl rfl
        · exact .inr rfl
      have Hz := Lib.hid hz
      clear hz
      generalize withZ x y v = z at Hst Hlt HW Hz
      obtain ⟨z1, z2, z3⟩ := z
      simp only at Hst Hlt HW Hz
      obtain ⟨c0, c1, _, _⟩ := cells2 Hg1.out
      go_wp2_with fail
      have q0 := fun w' (hk : KeepsBut [] wr.drew w') => hk.cell (p := ad.add k) (v := .int .i64 v) hcell (by simp)
      have q1 := fun w' (hk : KeepsBut [] wr.drew w') => hk.cell (p := ⟨w.heap.size + 1, 0, none⟩) (v := .int .u64 x) c0 (by simp)
      have q2 := fun w' (hk : KeepsBut [] wr.drew w') => hk.cell (p := ⟨w.heap.size + 1, 1, none⟩) (v := .int .u64 y) c1 (by simp)
      refine wp_region_fork (KeepsBut []) (KeepsBut.refl []) (KeepsBut.trans []) [10] [0, 1, 2, 3, 4] 5 9 [(0, 6), (0, 7), (0, 8), (2, 9), (2, 10), (0, 11)] [(2, 5), (0, 6), (0, 7), (0, 8), (2, 10), (0, 11)] (by kernel_rfl) (by kernel_rfl) (fun d _ _ _ _ h => by cases d <;> exact h) ?_
      repeat (first
        | (refine fork_pure (v := ?_) rfl rfl ?_ (fork_norm (a' := ?_) ?_ ?_)
           rotate_left
           focus (intro w' hR; go_simp; first | done | (with_reducible rfl))
           rotate_left
           focus (simp only [Act.put, List.getElem_toArray, List.getElem_cons_zero, List.getElem_cons_succ, List.setIfInBounds_toArray, List.set_cons_zero, List.set_cons_succ]; rfl)))
      clear q0 q1 q2 hcell c0 c1
      refine fork_both ?_ ?_
      · skip
        refine mix3_eff rfl ?_
        simp only [List.getElem_toArray, List.getElem_cons_zero, List.getElem_cons_succ]
        go_wp2_with fail
        refine (HW.out wr.drew).mono ?_
        rintro e w2 ⟨rfl, hb2⟩
        have hb2 : Below wr.heap.size wr w2 := ((Below.refl _ _).drew).trans hb2
        have Hg02 := Lib.hid ((hb2.block w.heap.size (by have := Hs1.out; omega)).trans Hg0.out)
        have Hg12 := Lib.hid ((hb2.block (w.heap.size + 1) (by have := Hs1.out; omega)).trans Hg1.out)
        have Hs2 := Lib.hid (Nat.le_trans Hs1.out hb2.size)
        have Hb2 := Lib.hid (Hb1.out.trans (hb2.mono (B' := w.heap.size) (by have := Hs1.out; omega)))
        have hk2 := KeepsBut.of_below (M := []) hb2
        go_wp2_with fail
        refine mixQ3_normal hk2 rfl ?_
        clear hb2 hk2
        repeat (first
          | (refine mix3_free (v := ?_) rfl rfl ?_ (mix3_norm (a' := ?_) ?_ ?_)
             rotate_left
             focus (intro w'; go_simp; first | done | (with_reducible rfl))
             rotate_left
             focus (simp only [Act.put, List.getElem_toArray, List.getElem_cons_zero, List.getElem_cons_succ, List.setIfInBounds_toArray, List.set_cons_zero, List.set_cons_succ]; rfl))
          | (refine mix3_pure (v := ?_) rfl rfl ?_ (mix3_norm (a' := ?_) ?_ ?_)
             rotate_left
             focus (intro w' hR; go_simp; first | done | (with_reducible rfl))
             rotate_left
             focus (simp only [Act.put, List.getElem_toArray, List.getElem_cons_zero, List.getElem_cons_succ, List.setIfInBounds_toArray, List.set_cons_zero, List.set_cons_succ]; rfl))
          | (refine mix3_freeOff rfl rfl (mix3_norm (a' := ?_) ?_ ?_)
             rotate_left
             focus (simp only [Act.put, List.getElem_toArray, List.getElem_cons_zero, List.getElem_cons_succ, List.setIfInBounds_toArray, List.set_cons_zero, List.set_cons_succ]; rfl))
          | (refine mix3_off rfl rfl (mix3_norm (a' := ?_) ?_ ?_)
             rotate_left
             focus (simp only [Act.put, List.getElem_toArray, List.getElem_cons_zero, List.getElem_cons_succ, List.setIfInBounds_toArray, List.set_cons_zero, List.set_cons_succ]; rfl)))
        refine mix3_eff rfl ?_
        simp only [List.getElem_toArray, List.getElem_cons_zero, List.getElem_cons_succ]
        obtain ⟨hb3, hg3, hs3⟩ := alloc1 w2 #[.int .u64 0, .int .u64 0] 30
        have hk3 := KeepsBut.of_below (M := []) hb3
        go_wp2_with fail
        refine mixQ3_normal hk3 rfl ?_
        clear hk3
        have Hgg := Lib.hid (show w.heap.size + 2 ≤ w2.heap.size from Hs2.out)
        have G6 := Lib.hid hg3
        have Hg03 := Lib.hid ((hb3.block w.heap.size (by have := Hs2.out; omega)).trans Hg02.out)
        have Hg13 := Lib.hid ((hb3.block (w.heap.size + 1) (by have := Hs2.out; omega)).trans Hg12.out)
        have Hs3 := Lib.hid (Nat.le_trans Hs2.out hb3.size)
        have Hb3 := Lib.hid (Hb2.out.trans (hb3.mono (B' := w.heap.size) (by have := Hs2.out; omega)))
        clear hb3 hg3 hs3 Hg02 Hg12 Hs2 Hb2
        generalize w2.alloc (.cells #[.int .u64 0, .int .u64 0] 30) = w3 at G6 Hg03 Hg13 Hs3 Hb3 ⊢
        generalize w2.heap.size = g at Hgg G6 ⊢
        refine mix3_eff rfl ?_
        simp only [List.getElem_toArray, List.getElem_cons_zero, List.getElem_cons_succ]
        have e6 := heap_setCell_same _ g 0 _ _ (.int .u64 z1) G6.out
        have E6 := Lib.hid (heap_setCell_same _ g 1 _ _ (.int .u64 z2) e6)
        have E0a := Lib.hid ((heap_setCell_other w3 ⟨g, 0, none⟩ w.heap.size (.int .u64 z1) (by have := Hgg.out; simp; omega)).trans Hg03.out)
        have E0 := Lib.hid ((heap_setCell_other _ ⟨g, 1, none⟩ w.heap.size (.int .u64 z2) (by have := Hgg.out; simp; omega)).trans E0a.out)
        have E1a := Lib.hid ((heap_setCell_other w3 ⟨g, 0, none⟩ (w.heap.size + 1) (.int .u64 z1) (by have := Hgg.out; simp; omega)).trans Hg13.out)
        have E1 := Lib.hid ((heap_setCell_other _ ⟨g, 1, none⟩ (w.heap.size + 1) (.int .u64 z2) (by have := Hgg.out; simp; omega)).trans E1a.out)
        have Hb4 := Lib.hid (below_set2 Hb3.out (g := g) (by have := Hgg.out; omega) (.int .u64 z1) (.int .u64 z2))
        have Hs4 : Hid (w.heap.size + 2 ≤ ((w3.setCell ⟨g, 0, none⟩ (.int .u64 z1)).setCell ⟨g, 1, none⟩ (.int .u64 z2)).heap.size) := Lib.hid (by rw [size_set, size_set]; exact Hs3.out)
        obtain ⟨d0, d1, f0, f1⟩ := cells2 G6.out
        clear e6 E0a E1a
        go_wp2_with fail
        clear d0 d1 f0 f1
        refine mixQ3_last (by simp) rfl ?_
        repeat (first
          | (refine mix3_free (v := ?_) rfl rfl ?_ (mix3_norm (a' := ?_) ?_ ?_)
             rotate_left
             focus (intro w'; go_simp; first | done | (with_reducible rfl))
             rotate_left
             focus (simp only [Act.put, List.getElem_toArray, List.getElem_cons_zero, List.getElem_cons_succ, List.setIfInBounds_toArray, List.set_cons_zero, List.set_cons_succ]; rfl))
          | (refine mix3_pure (v := ?_) rfl rfl ?_ (mix3_norm (a' := ?_) ?_ ?_)
             rotate_left
             focus (intro w' hR; go_simp; first | done | (with_reducible rfl))
             rotate_left
             focus (simp only [Act.put, List.getElem_toArray, List.getElem_cons_zero, List.getElem_cons_succ, List.setIfInBounds_toArray, List.set_cons_zero, List.set_cons_succ]; rfl))
          | (refine mix3_freeOff rfl rfl (mix3_norm (a' := ?_) ?_ ?_)
             rotate_left
             focus (simp only [Act.put, List.getElem_toArray, List.getElem_cons_zero, List.getElem_cons_succ, List.setIfInBounds_toArray, List.set_cons_zero, List.set_cons_succ]; rfl))
          | (refine mix3_off rfl rfl (mix3_norm (a' := ?_) ?_ ?_)
             rotate_left
             focus (simp only [Act.put, List.getElem_toArray, List.getElem_cons_zero, List.getElem_cons_succ, List.setIfInBounds_toArray, List.set_cons_zero, List.set_cons_succ]; rfl)))
        refine mix3_done ?_
        generalize (w3.setCell ⟨g, 0, none⟩ (.int .u64 z1)).setCell ⟨g, 1, none⟩ (.int .u64 z2) = w4 at E6 E0 E1 Hb4 Hs4 ⊢
        clear G6 Hg03 Hg13 Hs3 Hb3
        rcases Hz.out with rfl | hz
        · have Hst2 : Hid (ofS l 0 0 = ofS (l.drop (k + 1)) z1 z2) := Lib.hid (by have := Hst.out; rw [if_pos rfl] at this; exact this)
          obtain ⟨a0, a1, _, _⟩ := cells2 E6.out
          obtain ⟨b0, b1, f2, f3⟩ := cells2 E1.out
          have E7 := Lib.hid (set2 E1.out (.int .u64 z1) (.int .u64 z2))
          have E8 := Lib.hid ((heap_setCell_other w4 ⟨w.heap.size + 1, 0, none⟩ w.heap.size (.int .u64 z1) (by simp)).trans E0.out)
          have E8 := Lib.hid ((heap_setCell_other _ ⟨w.heap.size + 1, 1, none⟩ w.heap.size (.int .u64 z2) (by simp)).trans E8.out)
          go_wp2_with fail
          case roundEnd =>
            exact ⟨⟨k + 1, z1, z2, by omega, by push_cast; rfl, Hlt, Lib.hid Hst2.out.symm, E8, E7, Lib.hid (by rw [size_set, size_set]; exact Hs4.out), Lib.hid (below_set2 Hb4.out (g := w.heap.size + 1) (by omega) _ _)⟩, by simp only [intOf]; omega⟩
        · obtain ⟨rfl, rfl, rfl⟩ : z1 = 0 ∧ z2 = 0 ∧ z3 = 3 := by simpa using hz
          have Hst2 : Hid (ofS l 0 0 = (0, 0, 3)) := Lib.hid (by have := Hst.out; rw [if_neg (by omega)] at this; exact this)
          obtain ⟨b0, b1, f2, f3⟩ := cells2 E0.out
          have E7 := Lib.hid (set2 E0.out (.int .u64 0) (.int .u64 0))
          clear hz
          rw [show ((3 : Nat) : Int) = 3 from rfl]
          go_wp2_with fail
          try simp only [Exit.inBlock, Exit.then]
          refine bodyPost_ret (results_cell_tmp_row rfl _ _ w.heap.size _ _ _ _ rfl E7.out Tryd.underlying30 rfl (by kernel_rfl)) rfl ⟨by rw [Hst2.out]; rfl, below_set2 Hb4.out (Nat.le_refl _) _ _⟩
      · skip
        refine mix3_eff rfl ?_
        simp only [List.getElem_toArray, List.getElem_cons_zero, List.getElem_cons_succ]
        obtain ⟨hb3, hg3, hs3⟩ := alloc1 wr #[.int .u64 0, .int .u64 0] 30
        have hb3 : Below wr.heap.size wr (wr.alloc (.cells #[.int .u64 0, .int .u64 0] 30)).drew := hb3.drew
        have hg3 : (wr.alloc (.cells #[.int .u64 0, .int .u64 0] 30)).drew.heap[wr.heap.size]? = some (.cells #[.int .u64 0, .int .u64 0] 30 (0, 0)) := hg3
        have hs3 : (wr.alloc (.cells #[.int .u64 0, .int .u64 0] 30)).drew.heap.size = wr.heap.size + 1 := hs3
        have hk3 := KeepsBut.of_below (M := []) hb3
        go_wp2_with fail
        refine mixQ3_normal hk3 rfl ?_
        clear hk3
        have Hgg := Lib.hid (show w.heap.size + 2 ≤ wr.heap.size from Hs1.out)
        have G5 := Lib.hid hg3
        have Hg02 := Lib.hid ((hb3.block w.heap.size (by have := Hs1.out; omega)).trans Hg0.out)
        have Hg12 := Lib.hid ((hb3.block (w.heap.size + 1) (by have := Hs1.out; omega)).trans Hg1.out)
        have Hs2 := Lib.hid (Nat.le_trans Hs1.out hb3.size)
        have Hgs := Lib.hid (show wr.heap.size < _ from Nat.lt_of_lt_of_le (Nat.lt_succ_self _) (Nat.le_of_eq hs3.symm))
        have Hb2 := Lib.hid (Hb1.out.trans (hb3.mono (B' := w.heap.size) (by have := Hs1.out; omega)))
        clear hb3 hg3 hs3
        generalize (wr.alloc (.cells #[.int .u64 0, .int .u64 0] 30)).drew = w2 at G5 Hg02 Hg12 Hs2 Hb2 Hgs ⊢
        generalize wr.heap.size = g at Hgg G5 Hgs ⊢
        refine mix3_eff rfl ?_
        simp only [List.getElem_toArray, List.getElem_cons_zero, List.getElem_cons_succ]
        go_wp2_with fail
        refine (HW.out w2).mono ?_
        rintro e w3 ⟨rfl, hb3⟩
        have Hg03 := Lib.hid ((hb3.block w.heap.size (by have := Hs2.out; omega)).trans Hg02.out)
        have Hg13 := Lib.hid ((hb3.block (w.heap.size + 1) (by have := Hs2.out; omega)).trans Hg12.out)
        have G6 := Lib.hid ((hb3.block g Hgs.out).trans G5.out)
        have Hs3 := Lib.hid (Nat.le_trans Hs2.out hb3.size)
        have Hb3 := Lib.hid (Hb2.out.trans (hb3.mono (B' := w.heap.size) (by have := Hs2.out; omega)))
        have hk3 := KeepsBut.of_below (M := []) hb3
        go_wp2_with fail
        refine mixQ3_normal hk3 rfl ?_
        clear hb3 hk3 G5 Hg02 Hg12 Hs2 Hb2 Hgs
        repeat (first
          | (refine mix3_free (v := ?_) rfl rfl ?_ (mix3_norm (a' := ?_) ?_ ?_)
             rotate_left
             focus (intro w'; go_simp; first | done | (with_reducible rfl))
             rotate_left
             focus (simp only [Act.put, List.getElem_toArray, List.getElem_cons_zero, List.getElem_cons_succ, List.setIfInBounds_toArray, List.set_cons_zero, List.set_cons_succ]; rfl))
          | (refine mix3_pure (v := ?_) rfl rfl ?_ (mix3_norm (a' := ?_) ?_ ?_)
             rotate_left
             focus (intro w' hR; go_simp; first | done | (with_reducible rfl))
             rotate_left
             focus (simp only [Act.put, List.getElem_toArray, List.getElem_cons_zero, List.getElem_cons_succ, List.setIfInBounds_toArray, List.set_cons_zero, List.set_cons_succ]; rfl))
          | (refine mix3_freeOff rfl rfl (mix3_norm (a' := ?_) ?_ ?_)
             rotate_left
             focus (simp only [Act.put, List.getElem_toArray, List.getElem_cons_zero, List.getElem_cons_succ, List.setIfInBounds_toArray, List.set_cons_zero, List.set_cons_succ]; rfl))
          | (refine mix3_off rfl rfl (mix3_norm (a' := ?_) ?_ ?_)
             rotate_left
             focus (simp only [Act.put, List.getElem_toArray, List.getElem_cons_zero, List.getElem_cons_succ, List.setIfInBounds_toArray, List.set_cons_zero, List.set_cons_succ]; rfl)))
        refine mix3_eff rfl ?_
        simp only [List.getElem_toArray, List.getElem_cons_zero, List.getElem_cons_succ]
        have e6 := heap_setCell_same _ g 0 _ _ (.int .u64 z1) G6.out
        have E6 := Lib.hid (heap_setCell_same _ g 1 _ _ (.int .u64 z2) e6)
        have E0a := Lib.hid ((heap_setCell_other w3 ⟨g, 0, none⟩ w.heap.size (.int .u64 z1) (by have := Hgg.out; simp; omega)).trans Hg03.out)
        have E0 := Lib.hid ((heap_setCell_other _ ⟨g, 1, none⟩ w.heap.size (.int .u64 z2) (by have := Hgg.out; simp; omega)).trans E0a.out)
        have E1a := Lib.hid ((heap_setCell_other w3 ⟨g, 0, none⟩ (w.heap.size + 1) (.int .u64 z1) (by have := Hgg.out; simp; omega)).trans Hg13.out)
        have E1 := Lib.hid ((heap_setCell_other _ ⟨g, 1, none⟩ (w.heap.size + 1) (.int .u64 z2) (by have := Hgg.out; simp; omega)).trans E1a.out)
        have Hb4 := Lib.hid (below_set2 Hb3.out (g := g) (by have := Hgg.out; omega) (.int .u64 z1) (.int .u64 z2))
        have Hs4 : Hid (w.heap.size + 2 ≤ ((w3.setCell ⟨g, 0, none⟩ (.int .u64 z1)).setCell ⟨g, 1, none⟩ (.int .u64 z2)).heap.size) := Lib.hid (by rw [size_set, size_set]; exact Hs3.out)
        obtain ⟨d0, d1, f0, f1⟩ := cells2 G6.out
        clear e6 E0a E1a
        go_wp2_with fail
        clear d0 d1 f0 f1
        refine mixQ3_last (by simp) rfl ?_
        repeat (first
          | (refine mix3_free (v := ?_) rfl rfl ?_ (mix3_norm (a' := ?_) ?_ ?_)
             rotate_left
             focus (intro w'; go_simp; first | done | (with_reducible rfl))
             rotate_left
             focus (simp only [Act.put, List.getElem_toArray, List.getElem_cons_zero, List.getElem_cons_succ, List.setIfInBounds_toArray, List.set_cons_zero, List.set_cons_succ]; rfl))
          | (refine mix3_pure (v := ?_) rfl rfl ?_ (mix3_norm (a' := ?_) ?_ ?_)
             rotate_left
             focus (intro w' hR; go_simp; first | done | (with_reducible rfl))
             rotate_left
             focus (simp only [Act.put, List.getElem_toArray, List.getElem_cons_zero, List.getElem_cons_succ, List.setIfInBounds_toArray, List.set_cons_zero, List.set_cons_succ]; rfl))
          | (refine mix3_freeOff rfl rfl (mix3_norm (a' := ?_) ?_ ?_)
             rotate_left
             focus (simp only [Act.put, List.getElem_toArray, List.getElem_cons_zero, List.getElem_cons_succ, List.setIfInBounds_toArray, List.set_cons_zero, List.set_cons_succ]; rfl))
          | (refine mix3_off rfl rfl (mix3_norm (a' := ?_) ?_ ?_)
             rotate_left
             focus (simp only [Act.put, List.getElem_toArray, List.getElem_cons_zero, List.getElem_cons_succ, List.setIfInBounds_toArray, List.set_cons_zero, List.set_cons_succ]; rfl)))
        refine mix3_done ?_
        generalize (w3.setCell ⟨g, 0, none⟩ (.int .u64 z1)).setCell ⟨g, 1, none⟩ (.int .u64 z2) = w4 at E6 E0 E1 Hb4 Hs4 ⊢
        clear G6 Hg03 Hg13 Hs3 Hb3
        rcases Hz.out with rfl | hz
        · have Hst2 : Hid (ofS l 0 0 = ofS (l.drop (k + 1)) z1 z2) := Lib.hid (by have := Hst.out; rw [if_pos rfl] at this; exact this)
          obtain ⟨a0, a1, _, _⟩ := cells2 E6.out
          obtain ⟨b0, b1, f2, f3⟩ := cells2 E1.out
          have E7 := Lib.hid (set2 E1.out (.int .u64 z1) (.int .u64 z2))
          have E8 := Lib.hid ((heap_setCell_other w4 ⟨w.heap.size + 1, 0, none⟩ w.heap.size (.int .u64 z1) (by simp)).trans E0.out)
          have E8 := Lib.hid ((heap_setCell_other _ ⟨w.heap.size + 1, 1, none⟩ w.heap.size (.int .u64 z2) (by simp)).trans E8.out)
          go_wp2_with fail
          case roundEnd =>
            exact ⟨⟨k + 1, z1, z2, by omega, by push_cast; rfl, Hlt, Lib.hid Hst2.out.symm, E8, E7, Lib.hid (by rw [size_set, size_set]; exact Hs4.out), Lib.hid (below_set2 Hb4.out (g := w.heap.size + 1) (by omega) _ _)⟩, by simp only [intOf]; omega⟩
        · obtain ⟨rfl, rfl, rfl⟩ : z1 = 0 ∧ z2 = 0 ∧ z3 = 3 := by simpa using hz
          have Hst2 : Hid (ofS l 0 0 = (0, 0, 3)) := Lib.hid (by have := Hst.out; rw [if_neg (by omega)] at this; exact this)
          obtain ⟨b0, b1, f2, f3⟩ := cells2 E0.out
          have E7 := Lib.hid (set2 E0.out (.int .u64 0) (.int .u64 0))
          clear hz
          rw [show ((3 : Nat) : Int) = 3 from rfl]
          go_wp2_with fail
          try simp only [Exit.inBlock, Exit.then]
          refine bodyPost_ret (results_cell_tmp_row rfl _ _ w.heap.size _ _ _ _ rfl E7.out Tryd.underlying30 rfl (by kernel_rfl)) rfl ⟨by rw [Hst2.out]; rfl, below_set2 Hb4.out (Nat.le_refl _) _ _⟩
    · obtain rfl : k = l.length := by omega
      have Hst2 : Hid (ofS l 0 0 = (x, y, 0)) := Lib.hid (by have := Hof.out; rw [List.drop_length] at this; exact this.symm)
      obtain ⟨a0, a1, _, _⟩ := cells2 Hg1.out
      obtain ⟨b0, b1, f2, f3⟩ := cells2 Hg0.out
      have E7 := Lib.hid (set2 Hg0.out (.int .u64 x) (.int .u64 y))
      go_wp2_with fail
      try simp only [Exit.inBlock, Exit.then]
      refine bodyPost_ret (results_cell_tmp_row rfl _ _ w.heap.size _ _ _ _ rfl E7.out Tryd.underlying30 rfl (by kernel_rfl)) rfl ⟨by rw [Hst2.out]; rfl, below_set2 Hb1.out (Nat.le_refl _) _ _⟩
end Go.Proofs.YtiolfnnkkflaiaaDoor
