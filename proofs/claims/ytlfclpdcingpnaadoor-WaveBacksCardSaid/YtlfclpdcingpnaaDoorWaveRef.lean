/- The reference's turns and pairs, and numbers as floats. -/
import Derived.Test.YtlfclpdcingpnaaDoorWaveKnown
import Derived.Test.YtlfclpdcingpnaaDoorMix3
open Go.RowKit
namespace Go.Proofs.YtlfclpdcingpnaaDoor
attribute [local go_sem] store_f store_c

set_option maxRecDepth 100000 in
theorem rest_any (k : Int) (w : World) : Calls Tryd.prog 30 #[.int .i64 k] w fun e w' => e = .returned (.int .i64 (k % 4)) ∧ w = w' := by
  have h1 := tmod4_ge k
  go_enter Tryd.func30, Tryd.ntmps30
  go_wp2
  go_ret
  refine ⟨?_, rfl⟩
  have e : (k.tmod 4 + 4) % 4 = k % 4 := by have h2 := Int.tmod_add_mul_tdiv k 4; omega
  show Ending.returned (.int .i64 ((k.tmod 4 + 4) % 4)) = _
  rw [e]

set_option maxRecDepth 100000 in
theorem refTurn_any (k : Int) (w : World) : Calls Tryd.prog 15 #[.int .i64 k] w fun e w' => e = .returned (.agg #[.int .i64 (turnZ k).1, .int .i64 (turnZ k).2]) ∧ Below w.heap.size w w' := by
  rcases (by omega : k % 4 = 0 ∨ k % 4 = 1 ∨ k % 4 = 2 ∨ k % 4 = 3) with h | h | h | h
  all_goals
    go_enter Tryd.func15, Tryd.ntmps15
    go_wp2_with fail
    refine (rest_any k _).mono ?_
    rintro e w1 ⟨rfl, rfl⟩
    rw [h]
    have ht : turnZ k = turnZ (k % 4) := by unfold turnZ; rw [Int.emod_emod_of_dvd _ (Int.dvd_refl 4)]
    rw [h] at ht
    have Ht := Lib.hid ht
    clear ht
    go_wp2_with fail
    try simp only [Exit.inBlock, Exit.then]
    refine bodyPost_ret (results_cell_row rfl _ _ w.heap.size _ _ _ _ rfl (heap_alloc_new _ _) Tryd.underlying43 rfl (by kernel_rfl)) rfl ⟨?_, (Below.refl _ _).alloc (Nat.le_refl _) _⟩
    rw [Ht.out]; rfl

set_option maxRecDepth 100000 in
theorem number_any (a b : Int) (ha : a.natAbs < 9007199254740992) (hb : b.natAbs < 9007199254740992) (w : World) : Calls Tryd.prog 14 #[.agg #[.int .i64 a, .int .i64 b]] w fun e w' => ∃ x y, e = .returned (.complex .f64 x y) ∧ IsI x a ∧ IsI y b ∧ Below w.heap.size w w' := by
  have Ha := Lib.hid (IsI.ofInt a ha)
  have Hb := Lib.hid (IsI.ofInt b hb)
  clear ha hb
  go_enter Tryd.func14, Tryd.ntmps14
  go_wp2
  go_ret
  exact ⟨_, _, rfl, Ha.out, Hb.out, (Below.refl _ _).alloc (Nat.le_refl _) _⟩

set_option maxRecDepth 100000 in
theorem plus_any (a b c d : Int) (h1 : wrap64 (a + c) = a + c) (h2 : wrap64 (b + d) = b + d) (w : World) : Calls Tryd.prog 32 #[.agg #[.int .i64 a, .int .i64 b], .agg #[.int .i64 c, .int .i64 d]] w fun e w' => e = .returned (.agg #[.int .i64 (a + c), .int .i64 (b + d)]) ∧ Below w.heap.size w w' := by
  go_enter Tryd.func32, Tryd.ntmps32
  go_wp2
  try simp only [Exit.inBlock, Exit.then]
  have hg := heap_alloc_new ((w.alloc (.cells #[.int .i64 a, .int .i64 b] 43)).alloc (.cells #[.int .i64 c, .int .i64 d] 43)) (.cells #[.int .i64 (a + c), .int .i64 (b + d)] 43)
  rw [size_alloc, size_alloc] at hg
  exact bodyPost_ret (results_cell_row rfl _ _ (w.heap.size + 1 + 1) _ _ _ _ rfl hg Tryd.underlying43 rfl (by kernel_rfl)) rfl ⟨rfl, (((Below.refl _ _).alloc (Nat.le_refl _) _).alloc (by rw [size_alloc]; omega) _).alloc (by rw [size_alloc, size_alloc]; omega) _⟩

theorem gbelow {w w1 : World} (h : Below w.heap.size w.drew w1) (row : Option Nat) : w.grownBy w1 row := ⟨h.os, h.tape, h.output, h.size, fun i hi _ => h.block i hi⟩
theorem gbelow2 {w w1 : World} (h : Below w.heap.size w w1) (row : Option Nat) : w.grownBy w1 row := ⟨h.os, h.tape, h.output, h.size, fun i hi _ => h.block i hi⟩
theorem wrap64_small (x : Int) (h : x.natAbs ≤ 1000000) : wrap64 x = x := by
  unfold wrap64
  omega

set_option maxHeartbeats 1000000 in
set_option maxRecDepth 100000 in
theorem refMark_any (a b : Nat) (ha : a < 18446744073709551616) (hb : b < 18446744073709551616) (w : World) :
    Calls Tryd.prog 16 #[.agg #[.int .u64 a, .int .u64 b]] w fun e w' => e = .returned (.agg #[.int .i64 (tre (lst a b)), .int .i64 (tim (lst a b))]) ∧ Below w.heap.size w w' := by
  have Ha := Lib.hid ha
  have Hb := Lib.hid hb
  clear ha hb
  have hb1 := (((Below.refl w.heap.size w).alloc (Nat.le_refl _) (.cells #[.int .u64 a, .int .u64 b] 26)).alloc (by rw [size_alloc]; omega) (.cells #[.int .i64 0, .int .i64 0] 43)).alloc (by rw [size_alloc, size_alloc]; omega) (.cells #[.int .i64 0, .int .i64 0] 43)
  have hs1 : (((w.alloc (.cells #[.int .u64 a, .int .u64 b] 26)).alloc (.cells #[.int .i64 0, .int .i64 0] 43)).alloc (.cells #[.int .i64 0, .int .i64 0] 43)).heap.size = w.heap.size + 3 := by rw [size_alloc, size_alloc, size_alloc]
  have hg2 : (((w.alloc (.cells #[.int .u64 a, .int .u64 b] 26)).alloc (.cells #[.int .i64 0, .int .i64 0] 43)).alloc (.cells #[.int .i64 0, .int .i64 0] 43)).heap[w.heap.size + 1]? = some (.cells #[.int .i64 0, .int .i64 0] 43 (0, 0)) := by
    have := heap_alloc_new (w.alloc (.cells #[.int .u64 a, .int .u64 b] 26)) (.cells #[.int .i64 0, .int .i64 0] 43)
    rw [size_alloc] at this
    rw [heap_alloc_old _ _ (by rw [size_alloc, size_alloc]; omega)]; exact this
  have hg3 := heap_alloc_new ((w.alloc (.cells #[.int .u64 a, .int .u64 b] 26)).alloc (.cells #[.int .i64 0, .int .i64 0] 43)) (.cells #[.int .i64 0, .int .i64 0] 43)
  rw [size_alloc, size_alloc] at hg3
  go_enter Tryd.func16, Tryd.ntmps16
  go_wp2_with fail
  generalize ((w.alloc (.cells #[.int .u64 a, .int .u64 b] 26)).alloc (.cells #[.int .i64 0, .int .i64 0] 43)).alloc (.cells #[.int .i64 0, .int .i64 0] 43) = w1 at hb1 hs1 hg2 hg3 ⊢
  have Hb1 := Lib.hid hb1
  have Hs1 := Lib.hid hs1
  have Hg2 := Lib.hid hg2
  have Hg3 := Lib.hid hg3
  clear hb1 hs1 hg2 hg3
  refine (refList_any a b Ha.out Hb.out w1).mono ?_
  rintro e w2 ⟨A, c, rfl, ho2, hb2⟩
  have Ho2 := Lib.hid (ho2.mono (b2 := w.heap.size + 3) (by rw [Hs1.out]; omega))
  have Hb2 := Lib.hid (Hb1.out.trans (hb2.mono (by rw [Hs1.out]; omega)))
  have G2 := Lib.hid ((hb2.block _ (by rw [Hs1.out]; omega)).trans Hg2.out)
  have G3 := Lib.hid ((hb2.block _ (by rw [Hs1.out]; omega)).trans Hg3.out)
  have Hs2 := Lib.hid (show w.heap.size + 3 ≤ w2.heap.size by have := hb2.size; rw [Hs1.out] at this; exact this)
  have hlen := lst_len a b
  generalize hL : lst a b = L at Ho2 hlen ⊢
  have HL := Lib.hid hL
  clear ho2 hb2 hL Hg2 Hg3
  go_wp2
  go_loopw [5] (fun i wr => ∃ (k : Nat) (x y : Int), k ≤ L.length ∧ i = .int .i64 k ∧ Hid (x = tre (L.take k) ∧ y = tim (L.take k)) ∧ Hid (wr.heap[w.heap.size + 1]? = some (.cells #[.int .i64 0, .int .i64 0] 43 (0, 0))) ∧ Hid (wr.heap[w.heap.size + 2]? = some (.cells #[.int .i64 x, .int .i64 y] 43 (0, 0))) ∧ Hid (Below w.heap.size w wr) ∧ Hid (w2.grownBy wr (some (w.heap.size + 2)))) (fun i _ => L.length - (intOf i).toNat)
  case atStart => exact ⟨0, 0, 0, Nat.zero_le _, rfl, ⟨by simp [tre], by simp [tim]⟩, G2, G3, Hb2, World.grownBy.refl _ _⟩
  case round =>
    obtain ⟨k, x, y, hk, rfl, Hxy, H2, H3, Hbel, HB⟩ := hrel
    have hc0 : wr.cell? ⟨w.heap.size + 2, 0, none⟩ = some (.int .i64 x) := by rw [cell_of_row _ _ _ _ _ _ H3.out]; rfl
    have hc1 : wr.cell? ⟨w.heap.size + 2, 1, none⟩ = some (.int .i64 y) := by rw [cell_of_row _ _ _ _ _ _ H3.out]; rfl
    by_cases hlt : k < L.length
    · have Ho3 := Lib.hid (Ho2.out.keepG HB.out (by omega))
      obtain ⟨ad, rfl, hcell⟩ := Ho3.out.reads.at_ (k := k) (by rw [nv_length]; exact hlt) (u := .int .i64 L[k]) (by simp [nv, hlt])
      have Htk := Lib.hid (List.take_append_getElem hlt).symm
      have habs := tre_abs (L.take k)
      rw [show (L.take k).length = k by rw [List.length_take]; omega, ← Hxy.out.1, ← Hxy.out.2] at habs
      generalize L[k] = n at hcell Htk
      obtain ⟨t1, t2⟩ := turnZ_abs n
      have Hw1 := Lib.hid (wrap64_small (x + (turnZ n).1) (by omega))
      have Hw2 := Lib.hid (wrap64_small (y + (turnZ n).2) (by omega))
      clear habs t1 t2
      go_wp2_with fail
      have q0 := fun w' (hk : KeepsBut [] wr.drew w') => hk.cell (p := ⟨w.heap.size + 2, 0, none⟩) (v := .int .i64 x) hc0 (by simp)
      have q1 := fun w' (hk : KeepsBut [] wr.drew w') => hk.cell (p := ⟨w.heap.size + 2, 1, none⟩) (v := .int .i64 y) hc1 (by simp)
      have q2 := fun w' (hk : KeepsBut [] wr.drew w') => hk.cell (p := ad.add k) (v := .int .i64 n) hcell (by simp)
      refine wp_region_mix (KeepsBut []) (KeepsBut.refl []) (KeepsBut.trans []) [7] [(true, 0), (true, 1), (true, 2), (true, 3), (true, 4), (false, 5), (false, 6), (false, 7)] (by kernel_rfl) (by kernel_rfl) (fun d _ _ _ _ h => by cases d <;> exact h) ?_
      repeat (first
        | (refine mix_pure (v := ?_) rfl rfl ?_ (mix_norm (a' := ?_) ?_ ?_)
           rotate_left
           focus (intro w' hR; go_simp; first | done | (with_reducible rfl))
           rotate_left
           focus (simp only [Act.put, List.getElem_toArray, List.getElem_cons_zero, List.getElem_cons_succ, List.setIfInBounds_toArray, List.set_cons_zero, List.set_cons_succ]; rfl))
        | (refine mix_off rfl rfl (mix_norm (a' := ?_) ?_ ?_)
           rotate_left
           focus (simp only [Act.put, List.getElem_toArray, List.getElem_cons_zero, List.getElem_cons_succ, List.setIfInBounds_toArray, List.set_cons_zero, List.set_cons_succ]; rfl)))
      clear q0 q1 q2 hc0 hc1 hcell
      refine mix_eff rfl ?_
      simp only [List.getElem_toArray, List.getElem_cons_zero, List.getElem_cons_succ]
      go_wp2_with fail
      refine (refTurn_any n wr.drew).mono ?_
      rintro e w3 ⟨rfl, hb3⟩
      have H33 := (hb3.block (w.heap.size + 2) (by have := HB.out.size; have := Hs2.out; show _ < wr.heap.size; omega)).trans H3.out
      have H23 := (hb3.block (w.heap.size + 1) (by have := HB.out.size; have := Hs2.out; show _ < wr.heap.size; omega)).trans H2.out
      have hB3 := gtrans HB.out (gbelow (w := wr) hb3 (some (w.heap.size + 2)))
      have hl3 := Hbel.out.drew.trans (hb3.mono (B' := w.heap.size) Hbel.out.drew.size)
      go_wp2_with fail
      refine mixQ_normal (KeepsBut.of_below hb3) rfl ?_
      clear hb3
      have Htr : Hid (x + (turnZ n).1 = tre (L.take (k + 1)) ∧ y + (turnZ n).2 = tim (L.take (k + 1))) := Lib.hid ⟨by rw [Htk.out, tre_snoc, Hxy.out.1], by rw [Htk.out, tim_snoc, Hxy.out.2]⟩
      generalize (turnZ n).1 = t1 at Hw1 Htr ⊢
      generalize (turnZ n).2 = t2 at Hw2 Htr ⊢
      refine mix_eff rfl ?_
      simp only [List.getElem_toArray, List.getElem_cons_zero, List.getElem_cons_succ]
      go_wp2_with fail
      refine (plus_any x y t1 t2 Hw1.out Hw2.out w3).mono ?_
      rintro e w4 ⟨rfl, hb4⟩
      have hw3 : w.heap.size + 3 ≤ w3.heap.size := by have := hB3.size; have := Hs2.out; omega
      have h3 := (hb4.block (w.heap.size + 2) (by omega)).trans H33
      have h2 := (hb4.block (w.heap.size + 1) (by omega)).trans H23
      have hB4 := gtrans hB3 (gbelow2 hb4 (some (w.heap.size + 2)))
      have hl4 := hl3.trans (hb4.mono (B' := w.heap.size) hl3.size)
      go_wp2_with fail
      refine mixQ_normal (KeepsBut.of_below hb4) rfl ?_
      have hc0 : w4.cell? ⟨w.heap.size + 2, 0, none⟩ = some (.int .i64 x) := by rw [cell_of_row _ _ _ _ _ _ h3]; rfl
      have hc1 : w4.cell? ⟨w.heap.size + 2, 1, none⟩ = some (.int .i64 y) := by rw [cell_of_row _ _ _ _ _ _ h3]; rfl
      have hf0 : w4.frozen? ⟨w.heap.size + 2, 0, none⟩ = false := frozen_of_row _ _ _ _ _ h3
      have hf1 : w4.frozen? ⟨w.heap.size + 2, 1, none⟩ = false := frozen_of_row _ _ _ _ _ h3
      have e0 := heap_setCell_same w4 (w.heap.size + 2) 0 _ _ (.int .i64 (x + t1)) h3
      have E1 := Lib.hid (heap_setCell_same _ (w.heap.size + 2) 1 _ _ (.int .i64 (y + t2)) e0)
      have E2 := Lib.hid h2
      have HB4 := Lib.hid hB4
      have Hl4 := Lib.hid hl4
      clear hb4 e0 h2 h3 hB4 hl4 H33 H23 hB3 hl3 hw3
      refine mix_eff rfl ?_
      simp only [List.getElem_toArray, List.getElem_cons_zero, List.getElem_cons_succ]
      go_wp2_with fail
      refine mixQ_last (by simp) rfl ?_
      refine mix_done ?_
      go_wp2_with fail
      case roundEnd =>
        refine ⟨⟨k + 1, x + t1, y + t2, by omega, by push_cast; rfl, Htr, Lib.hid ?_, E1, Lib.hid ?_, Lib.hid ?_⟩, by simp only [intOf]; omega⟩
        · rw [heap_setCell_other _ _ _ _ (by simp), heap_setCell_other _ _ _ _ (by simp)]; exact E2.out
        · exact (Hl4.out.setCell (p := ⟨w.heap.size + 2, 0, none⟩) (by show w.heap.size ≤ w.heap.size + 2; omega) _).setCell (p := ⟨w.heap.size + 2, 1, none⟩) (by show w.heap.size ≤ w.heap.size + 2; omega) _
        · exact gtrans (gtrans HB4.out (gset _ _ _ _)) (gset _ _ _ _)
    · have hd0 : wr.cell? ⟨w.heap.size + 1, 0, none⟩ = some (.int .i64 0) := by rw [cell_of_row _ _ _ _ _ _ H2.out]; rfl
      have hd1 : wr.cell? ⟨w.heap.size + 1, 1, none⟩ = some (.int .i64 0) := by rw [cell_of_row _ _ _ _ _ _ H2.out]; rfl
      have hf0 : wr.frozen? ⟨w.heap.size + 1, 0, none⟩ = false := frozen_of_row _ _ _ _ _ H2.out
      have hf1 : wr.frozen? ⟨w.heap.size + 1, 1, none⟩ = false := frozen_of_row _ _ _ _ _ H2.out
      have e0 := heap_setCell_same wr (w.heap.size + 1) 0 _ _ (.int .i64 x) H2.out
      have E1 := Lib.hid (heap_setCell_same _ (w.heap.size + 1) 1 _ _ (.int .i64 y) e0)
      clear e0
      go_wp2
      try simp only [Exit.inBlock, Exit.then]
      have e : L.take k = L := List.take_of_length_le (by omega)
      have h := Hxy.out
      rw [e, ← HL.out] at h
      have hb9 (i : Nat) : w.heap.size ≤ (⟨w.heap.size + 1, i, none⟩ : Addr).block := by show w.heap.size ≤ w.heap.size + 1; omega
      refine bodyPost_ret (results_cell_row rfl _ _ (w.heap.size + 1) _ _ _ _ rfl E1.out Tryd.underlying43 rfl (by kernel_rfl)) rfl ⟨?_, (Hbel.out.setCell (p := ⟨w.heap.size + 1, 0, none⟩) (hb9 0) _).setCell (p := ⟨w.heap.size + 1, 1, none⟩) (hb9 1) _⟩
      rw [← h.1, ← h.2]; rfl

set_option maxRecDepth 100000 in
theorem whole_any (a b c d : Int) (ha : a.natAbs < 9007199254740992) (hb : b.natAbs < 9007199254740992) (hc : c.natAbs < 9007199254740992) (hd : d.natAbs < 9007199254740992) (w : World) :
    Calls Tryd.prog 17 #[.agg #[.int .i64 a, .int .i64 b, .int .i64 c, .int .i64 d]] w fun e w' => ∃ x0 x1 x2 x3, e = .returned (.agg #[.float .f64 x0, .float .f64 x1, .float .f64 x2, .float .f64 x3]) ∧ (IsI x0 a ∧ IsI x1 b ∧ IsI x2 c ∧ IsI x3 d) ∧ Below w.heap.size w w' := by
  have H := Lib.hid (show IsI _ a ∧ IsI _ b ∧ IsI _ c ∧ IsI _ d from ⟨IsI.ofInt a ha, IsI.ofInt b hb, IsI.ofInt c hc, IsI.ofInt d hd⟩)
  clear ha hb hc hd
  go_enter Tryd.func17, Tryd.ntmps17
  go_wp2
  try simp only [Exit.inBlock, Exit.then]
  have hg := heap_alloc_new (w.alloc (.cells #[.int .i64 a, .int .i64 b, .int .i64 c, .int .i64 d] 47)) (.cells #[.float .f64 (floatOfInt .f64 a), .float .f64 (floatOfInt .f64 b), .float .f64 (floatOfInt .f64 c), .float .f64 (floatOfInt .f64 d)] 37)
  rw [size_alloc] at hg
  exact bodyPost_ret (results_cell_row rfl _ _ (w.heap.size + 1) _ _ _ _ rfl hg Tryd.underlying37 rfl (by kernel_rfl)) rfl ⟨_, _, _, _, rfl, H.out, ((Below.refl _ _).alloc (Nat.le_refl _) _).alloc (by rw [size_alloc]; omega) _⟩
end Go.Proofs.YtlfclpdcingpnaaDoor
