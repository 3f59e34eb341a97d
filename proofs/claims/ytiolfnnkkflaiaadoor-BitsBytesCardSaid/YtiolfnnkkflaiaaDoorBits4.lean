/- Sets: those of both, those that are not in the other one: like sets; the reference. -/
import Derived.Test.YtiolfnnkkflaiaaDoorBits3
open Go.RowKit
namespace Go.Proofs.YtiolfnnkkflaiaaDoor

set_option maxRecDepth 100000 in
theorem bitsOrEq_any (a b : Nat) (w : World) :
    Calls Tryd.prog 19 #[.agg #[.int .u64 a, .int .u64 b], .agg #[.int .u64 a, .int .u64 b]] w fun e w' => e = .returned (.agg #[.int .u64 a, .int .u64 b]) ∧ Below w.heap.size w w' := by
  obtain ⟨hb1, hg1, hg2, hg3, hs1⟩ := alloc3 w #[.int .u64 a, .int .u64 b] 26 #[.int .u64 a, .int .u64 b] 26 #[.int .u64 0, .int .u64 0] 26
  have qe := eql_u2 (P := Tryd.prog) Tryd.underlying26 Tryd.underlying23 (by kernel_rfl) (by kernel_rfl) (by kernel_rfl) (a : Int) (b : Int) (a : Int) (b : Int)
  simp only [beq_self_eq_true, Bool.and_self] at qe
  obtain ⟨i0, i1, _, _⟩ := cells2 hg1
  obtain ⟨j0, j1, _, _⟩ := cells2 hg2
  obtain ⟨hb9, _, _, hg9, _⟩ := alloc3 w #[.int .u64 a, .int .u64 b] 26 #[.int .u64 a, .int .u64 b] 26 #[.int .u64 a, .int .u64 b] 26
  have E := Lib.hid hg9
  have Hb1 := Lib.hid hb9
  clear hb1 hg1 hg2 hg3 hs1 hb9 hg9
  go_enter Tryd.func19, Tryd.ntmps19
  go_wp2_with fail
  try simp only [Exit.inBlock, Exit.then]
  exact bodyPost_ret (results_cell_row rfl _ _ (w.heap.size + 2) _ _ _ _ rfl E.out Tryd.underlying26 rfl (by kernel_rfl)) rfl ⟨rfl, Hb1.out⟩
theorem bitsOr_any (a b c d : Nat) (ha : a < 18446744073709551616) (hb : b < 18446744073709551616) (hc : c < 18446744073709551616) (hd : d < 18446744073709551616) (w : World) :
    Calls Tryd.prog 19 #[.agg #[.int .u64 a, .int .u64 b], .agg #[.int .u64 c, .int .u64 d]] w fun e w' => e = .returned (.agg #[.int .u64 ((a ||| c) : Nat), .int .u64 ((b ||| d) : Nat)]) ∧ Below w.heap.size w w' := by
  by_cases h : a = c ∧ b = d
  · obtain ⟨rfl, rfl⟩ := h
    rw [Nat.or_self, Nat.or_self]
    exact bitsOrEq_any a b w
  · exact bitsOrNe_any a b c d ha hb hc hd h w

/-! ### the reference's loops -/
/-- A list of which the first k are of f, the others of g. -/
def half (f g : Nat → Bool) (k : Nat) : List Bool := (List.range 128).map fun j => if j < k then f j else g j
theorem half_length (f g : Nat → Bool) (k : Nat) : (half f g k).length = 128 := by simp [half]
theorem half_zero (f : Nat → Bool) (a b : Nat) : half f (has a b) 0 = tell a b 128 := by simp [half, tell]
theorem half_get (f g : Nat → Bool) (k j : Nat) (hj : j < 128) : (half f g k)[j]? = some (if j < k then f j else g j) := by simp [half, hj]
theorem half_set (f g : Nat → Bool) (k : Nat) : (half f g k).set k (f k) = half f g (k + 1) := by
  apply List.ext_getElem?
  intro j
  rw [List.getElem?_set]
  by_cases hj : j < 128
  · rw [half_get _ _ _ _ hj, half_get _ _ _ _ hj, half_length]
    by_cases h : k = j
    · subst h; simp [hj]
    · have : (j < k) = (j < k + 1) := by simp; omega
      simp [h, this]
  · have h1 : (half f g k)[j]? = none := by rw [List.getElem?_eq_none]; rw [half_length]; omega
    have h2 : (half f g (k + 1))[j]? = none := by rw [List.getElem?_eq_none]; rw [half_length]; omega
    rw [h1, h2, half_length]
    split
    · split
      · omega
      · rfl
    · rfl
theorem half_at (f g : Nat → Bool) (j : Nat) (hj : j < 128) : at_ (half f g 128) j = f j := by
  unfold at_
  rw [List.getD_eq_getElem?_getD, half_get _ _ _ _ hj]
  simp [hj]

set_option maxHeartbeats 1000000 in
set_option maxRecDepth 100000 in
theorem refOr_any (a b c d : Nat) (ha : a < 18446744073709551616) (hb : b < 18446744073709551616) (hc : c < 18446744073709551616) (hd : d < 18446744073709551616) (w : World) :
    Calls Tryd.prog 20 #[.agg #[.int .u64 a, .int .u64 b], .agg #[.int .u64 c, .int .u64 d]] w fun e w' => e = .returned (.agg #[.int .u64 ((a ||| c) : Nat), .int .u64 ((b ||| d) : Nat)]) ∧ Below w.heap.size w w' := by
  obtain ⟨hb1, hg1, hg2, hg3, hs1⟩ := alloc3 w #[.int .u64 a, .int .u64 b] 30 #[.int .u64 c, .int .u64 d] 30 #[.int .u64 0, .int .u64 0] 30
  have HT := Lib.hid (told_any a b ha hb)
  have HH := Lib.hid fun (i : Nat) (hi : i < 128) => has_any c d i hc hd hi
  have Hof := Lib.hid (ofBits_has (at_ (half (fun j => has a b j || has c d j) (has a b) 128)) (a ||| c) (b ||| d) (by exact or_lt64 a c ha hc) (by exact or_lt64 b d hb hd) (fun k hk => by rw [half_at _ _ k hk, has_or]))
  clear ha hb hc hd
  obtain ⟨i0, i1, _, _⟩ := cells2 hg1
  go_enter Tryd.func20, Tryd.ntmps20
  go_wp2_with fail
  clear i0 i1
  generalize ((w.alloc (.cells #[.int .u64 a, .int .u64 b] 30)).alloc (.cells #[.int .u64 c, .int .u64 d] 30)).alloc (.cells #[.int .u64 0, .int .u64 0] 30) = w1 at hb1 hg1 hg2 hg3 hs1 ⊢
  have Hb1 := Lib.hid hb1
  have Hg2 := Lib.hid hg2
  have Hg3 := Lib.hid hg3
  have Hs1 := Lib.hid (show w.heap.size + 3 ≤ w1.heap.size by omega)
  clear hb1 hg1 hg2 hg3 hs1
  refine (HT.out w1).mono ?_
  rintro e w2 ⟨A, cc, rfl, ho, hb2⟩
  have hl2 : (lv (tell a b 128)).length = 128 := by rw [lv_length, tell_length]
  obtain ⟨g, rfl, hg, hg'⟩ := ho.form (by omega)
  rw [← half_zero (fun j => has a b j || has c d j) a b] at ho
  have hs := Hs1.out
  have Ho := Lib.hid ho
  have G2 := Lib.hid ((hb2.block (w.heap.size + 1) (by omega)).trans Hg2.out)
  have G3 := Lib.hid ((hb2.block (w.heap.size + 2) (by omega)).trans Hg3.out)
  have Hb2 := Lib.hid (Hb1.out.trans (hb2.mono (B' := w.heap.size) (by omega)))
  have Hg := Lib.hid (show w.heap.size + 3 ≤ g by omega)
  have Hgw := Lib.hid hg'
  have Hsw := Lib.hid (show w1.heap.size ≤ g from hg)
  clear ho hb2 hl2 hs hg hg' Hb1 Hg2 Hg3 HT
  go_wp2_with fail
  go_loopw [6] (fun i wr => ∃ k : Nat, k ≤ 128 ∧ i = .int .i64 k ∧ Hid (OwnV wr w1.heap.size 4 (some ⟨g, 0, none⟩) cc (lv (half (fun j => has a b j || has c d j) (has a b) k))) ∧ Hid (wr.heap[w.heap.size + 1]? = some (.cells #[.int .u64 c, .int .u64 d] 30 (0, 0))) ∧ Hid (wr.heap[w.heap.size + 2]? = some (.cells #[.int .u64 0, .int .u64 0] 30 (0, 0))) ∧ Hid (g < wr.heap.size) ∧ Hid (Below w.heap.size w wr)) (fun i _ => 128 - (intOf i).toNat)
  case atStart => exact ⟨0, by omega, rfl, Ho, G2, G3, Hgw, Hb2⟩
  case round =>
    clear Ho G2 G3 Hb2 Hgw
    obtain ⟨k, hk, rfl, Ho, G2, G3, Hgw, Hb2⟩ := hrel
    by_cases hk8 : k < 128
    · have hlk : k < (lv (half (fun j => has a b j || has c d j) (has a b) k)).length := by rw [lv_length, half_length]; exact hk8
      have hcell := Ho.out.cell hlk
      have hget : (lv (half (fun j => has a b j || has c d j) (has a b) k))[k] = .bool (has a b k) := by
        have h := half_get (fun j => has a b j || has c d j) (has a b) k k hk8
        rw [if_neg (by omega)] at h
        simp only [lv, List.getElem_map]
        rw [List.getElem?_eq_getElem (by rw [half_length]; exact hk8)] at h
        injection h with h
        rw [h]
      rw [hget] at hcell
      have hfro := Ho.out.frozen k
      obtain ⟨j0, j1, _, _⟩ := cells2 G2.out
      clear hget hlk
      cases hh : has a b k with
      | true =>
        rw [hh] at hcell
        have Hset := Lib.hid (half_set (fun j => has a b j || has c d j) (has a b) k)
        simp only [hh, Bool.true_or] at Hset
        have Hst := Lib.hid (Ho.out.set k (.bool true))
        have Gn2 := Lib.hid ((heap_setCell_other wr ⟨g, k, none⟩ (w.heap.size + 1) (.bool true) (by have := Hg.out; simp; omega)).trans G2.out)
        have Gn3 := Lib.hid ((heap_setCell_other wr ⟨g, k, none⟩ (w.heap.size + 2) (.bool true) (by have := Hg.out; simp; omega)).trans G3.out)
        clear hh
        go_wp2_with fail
        case roundEnd =>
          refine ⟨⟨k + 1, by omega, by push_cast; rfl, Lib.hid ?_, Gn2, Gn3, Lib.hid (by rw [size_set]; exact Hgw.out), Lib.hid (Hb2.out.setCell (p := ⟨g, k, none⟩) (by have := Hg.out; show w.heap.size ≤ g; omega) _)⟩, by simp only [intOf]; omega⟩
          have h := Hst.out
          have e : (lv (half (fun j => has a b j || has c d j) (has a b) k)).set k (.bool true) = lv (half (fun j => has a b j || has c d j) (has a b) (k + 1)) := by rw [← Hset.out]; simp [lv, List.map_set]
          rw [e] at h
          exact h
      | false =>
        rw [hh] at hcell
        have Hset := Lib.hid (half_set (fun j => has a b j || has c d j) (has a b) k)
        simp only [hh, Bool.false_or] at Hset
        clear hh
        have Hfro := Lib.hid hfro
        clear hfro
        go_wp2_with fail
        clear hcell j0 j1
        refine (HH.out k hk8 wr).mono ?_
        rintro e w3 ⟨rfl, hb3⟩
        generalize has c d k = v at Hset ⊢
        have hgw := Hgw.out
        have Ho3 := Ho.out.below hb3
        have hlk : k < (lv (half (fun j => has a b j || has c d j) (has a b) k)).length := by rw [lv_length, half_length]; exact hk8
        obtain ⟨u0, hcell⟩ : ∃ u, w3.cell? ⟨g, k, none⟩ = some u := ⟨_, Ho3.cell hlk⟩
        have hfro := Ho3.frozen k
        have Hst := Lib.hid (Ho3.set k (.bool v))
        have hgg := Hg.out
        have Gn2 := Lib.hid ((heap_setCell_other w3 ⟨g, k, none⟩ (w.heap.size + 1) (.bool v) (by simp; omega)).trans ((hb3.block _ (by omega)).trans G2.out))
        have Gn3 := Lib.hid ((heap_setCell_other w3 ⟨g, k, none⟩ (w.heap.size + 2) (.bool v) (by simp; omega)).trans ((hb3.block _ (by omega)).trans G3.out))
        have Hb3 := Lib.hid (Hb2.out.trans (hb3.mono (B' := w.heap.size) (by omega)))
        have Hg3 := Lib.hid (show g < w3.heap.size from Nat.lt_of_lt_of_le hgw hb3.size)
        clear hgw Ho3 hb3 hgg hlk
        go_wp2_with fail
        case roundEnd =>
          refine ⟨⟨k + 1, by omega, by push_cast; rfl, Lib.hid ?_, Gn2, Gn3, Lib.hid (by rw [size_set]; exact Hg3.out), Lib.hid (Hb3.out.setCell (p := ⟨g, k, none⟩) (by have := Hg.out; show w.heap.size ≤ g; omega) _)⟩, by simp only [intOf]; omega⟩
          have h := Hst.out
          have e : (lv (half (fun j => has a b j || has c d j) (has a b) k)).set k (.bool v) = lv (half (fun j => has a b j || has c d j) (has a b) (k + 1)) := by rw [← Hset.out]; simp [lv, List.map_set]
          rw [e] at h
          exact h
    · obtain rfl : k = 128 := by omega
      have hr := Ho.out.reads
      rw [lv_length, half_length] at hr
      have Hr := Lib.hid hr
      clear hr
      go_wp2_with fail
      refine (made_any (some ⟨g, 0, none⟩) _ cc (half_length _ _ _) wr Hr.out).mono ?_
      rintro e w4 ⟨rfl, hb4⟩
      rw [Hof.out.1, Hof.out.2]
      have Hb4 := Lib.hid (Hb2.out.trans (hb4.mono (B' := w.heap.size) (by have := Hgw.out; have := Hg.out; omega)))
      have G4 := (hb4.block (w.heap.size + 2) (by have := Hgw.out; have := Hg.out; omega)).trans G3.out
      obtain ⟨c2, c3, f2, f3⟩ := cells2 G4
      have E := Lib.hid (set2 G4 (.int .u64 ((a ||| c) : Nat)) (.int .u64 ((b ||| d) : Nat)))
      clear hb4 G4
      go_wp2_with fail
      try simp only [Exit.inBlock, Exit.then]
      exact bodyPost_ret (results_cell_row rfl _ _ (w.heap.size + 2) _ _ _ _ rfl E.out Tryd.underlying30 rfl (by kernel_rfl)) rfl ⟨rfl, below_set2 Hb4.out (by omega) _ _⟩

set_option maxHeartbeats 1000000 in
set_option maxRecDepth 100000 in
theorem refMinus_any (a b c d : Nat) (ha : a < 18446744073709551616) (hb : b < 18446744073709551616) (hc : c < 18446744073709551616) (hd : d < 18446744073709551616) (w : World) :
    Calls Tryd.prog 22 #[.agg #[.int .u64 a, .int .u64 b], .agg #[.int .u64 c, .int .u64 d]] w fun e w' => e = .returned (.agg #[.int .u64 ((andn a c) : Nat), .int .u64 ((andn b d) : Nat)]) ∧ Below w.heap.size w w' := by
  obtain ⟨hb1, hg1, hg2, hg3, hs1⟩ := alloc3 w #[.int .u64 a, .int .u64 b] 30 #[.int .u64 c, .int .u64 d] 30 #[.int .u64 0, .int .u64 0] 30
  have HT := Lib.hid (told_any a b ha hb)
  have HH := Lib.hid fun (i : Nat) (hi : i < 128) => has_any c d i hc hd hi
  have Hof := Lib.hid (ofBits_has (at_ (half (fun j => has a b j && !has c d j) (has a b) 128)) (andn a c) (andn b d) (by exact andn_lt a c ha) (by exact andn_lt b d hb) (fun k hk => by rw [half_at _ _ k hk, has_andn a b c d k ha hb hc hd]))
  clear ha hb hc hd
  obtain ⟨i0, i1, _, _⟩ := cells2 hg1
  go_enter Tryd.func22, Tryd.ntmps22
  go_wp2_with fail
  clear i0 i1
  generalize ((w.alloc (.cells #[.int .u64 a, .int .u64 b] 30)).alloc (.cells #[.int .u64 c, .int .u64 d] 30)).alloc (.cells #[.int .u64 0, .int .u64 0] 30) = w1 at hb1 hg1 hg2 hg3 hs1 ⊢
  have Hb1 := Lib.hid hb1
  have Hg2 := Lib.hid hg2
  have Hg3 := Lib.hid hg3
  have Hs1 := Lib.hid (show w.heap.size + 3 ≤ w1.heap.size by omega)
  clear hb1 hg1 hg2 hg3 hs1
  refine (HT.out w1).mono ?_
  rintro e w2 ⟨A, cc, rfl, ho, hb2⟩
  have hl2 : (lv (tell a b 128)).length = 128 := by rw [lv_length, tell_length]
  obtain ⟨g, rfl, hg, hg'⟩ := ho.form (by omega)
  rw [← half_zero (fun j => has a b j && !has c d j) a b] at ho
  have hs := Hs1.out
  have Ho := Lib.hid ho
  have G2 := Lib.hid ((hb2.block (w.heap.size + 1) (by omega)).trans Hg2.out)
  have G3 := Lib.hid ((hb2.block (w.heap.size + 2) (by omega)).trans Hg3.out)
  have Hb2 := Lib.hid (Hb1.out.trans (hb2.mono (B' := w.heap.size) (by omega)))
  have Hg := Lib.hid (show w.heap.size + 3 ≤ g by omega)
  have Hgw := Lib.hid hg'
  have Hsw := Lib.hid (show w1.heap.size ≤ g from hg)
  clear ho hb2 hl2 hs hg hg' Hb1 Hg2 Hg3 HT
  go_wp2_with fail
  go_loopw [6] (fun i wr => ∃ k : Nat, k ≤ 128 ∧ i = .int .i64 k ∧ Hid (OwnV wr w1.heap.size 4 (some ⟨g, 0, none⟩) cc (lv (half (fun j => has a b j && !has c d j) (has a b) k))) ∧ Hid (wr.heap[w.heap.size + 1]? = some (.cells #[.int .u64 c, .int .u64 d] 30 (0, 0))) ∧ Hid (wr.heap[w.heap.size + 2]? = some (.cells #[.int .u64 0, .int .u64 0] 30 (0, 0))) ∧ Hid (g < wr.heap.size) ∧ Hid (Below w.heap.size w wr)) (fun i _ => 128 - (intOf i).toNat)
  case atStart => exact ⟨0, by omega, rfl, Ho, G2, G3, Hgw, Hb2⟩
  case round =>
    clear Ho G2 G3 Hb2 Hgw
    obtain ⟨k, hk, rfl, Ho, G2, G3, Hgw, Hb2⟩ := hrel
    by_cases hk8 : k < 128
    · have hlk : k < (lv (half (fun j => has a b j && !has c d j) (has a b) k)).length := by rw [lv_length, half_length]; exact hk8
      have hcell := Ho.out.cell hlk
      have hget : (lv (half (fun j => has a b j && !has c d j) (has a b) k))[k] = .bool (has a b k) := by
        have h := half_get (fun j => has a b j && !has c d j) (has a b) k k hk8
        rw [if_neg (by omega)] at h
        simp only [lv, List.getElem_map]
        rw [List.getElem?_eq_getElem (by rw [half_length]; exact hk8)] at h
        injection h with h
        rw [h]
      rw [hget] at hcell
      have hfro := Ho.out.frozen k
      obtain ⟨j0, j1, _, _⟩ := cells2 G2.out
      clear hget hlk
      cases hh : has a b k with
      | false =>
        rw [hh] at hcell
        have Hset := Lib.hid (half_set (fun j => has a b j && !has c d j) (has a b) k)
        simp only [hh, Bool.false_and] at Hset
        have Hst := Lib.hid (Ho.out.set k (.bool false))
        have Gn2 := Lib.hid ((heap_setCell_other wr ⟨g, k, none⟩ (w.heap.size + 1) (.bool false) (by have := Hg.out; simp; omega)).trans G2.out)
        have Gn3 := Lib.hid ((heap_setCell_other wr ⟨g, k, none⟩ (w.heap.size + 2) (.bool false) (by have := Hg.out; simp; omega)).trans G3.out)
        clear hh
        go_wp2_with fail
        case roundEnd =>
          refine ⟨⟨k + 1, by omega, by push_cast; rfl, Lib.hid ?_, Gn2, Gn3, Lib.hid (by rw [size_set]; exact Hgw.out), Lib.hid (Hb2.out.setCell (p := ⟨g, k, none⟩) (by have := Hg.out; show w.heap.size ≤ g; omega) _)⟩, by simp only [intOf]; omega⟩
          have h := Hst.out
          have e : (lv (half (fun j => has a b j && !has c d j) (has a b) k)).set k (.bool false) = lv (half (fun j => has a b j && !has c d j) (has a b) (k + 1)) := by rw [← Hset.out]; simp [lv, List.map_set]
          rw [e] at h
          exact h
      | true =>
        rw [hh] at hcell
        have Hset := Lib.hid (half_set (fun j => has a b j && !has c d j) (has a b) k)
        simp only [hh, Bool.true_and] at Hset
        clear hh
        have Hfro := Lib.hid hfro
        clear hfro
        go_wp2_with fail
        clear hcell j0 j1
        refine (HH.out k hk8 wr).mono ?_
        rintro e w3 ⟨rfl, hb3⟩
        generalize has c d k = v at Hset ⊢
        have hgw := Hgw.out
        have Ho3 := Ho.out.below hb3
        have hlk : k < (lv (half (fun j => has a b j && !has c d j) (has a b) k)).length := by rw [lv_length, half_length]; exact hk8
        obtain ⟨u0, hcell⟩ : ∃ u, w3.cell? ⟨g, k, none⟩ = some u := ⟨_, Ho3.cell hlk⟩
        have hfro := Ho3.frozen k
        have Hst := Lib.hid (Ho3.set k (.bool (!v)))
        have hgg := Hg.out
        have Gn2 := Lib.hid ((heap_setCell_other w3 ⟨g, k, none⟩ (w.heap.size + 1) (.bool (!v)) (by simp; omega)).trans ((hb3.block _ (by omega)).trans G2.out))
        have Gn3 := Lib.hid ((heap_setCell_other w3 ⟨g, k, none⟩ (w.heap.size + 2) (.bool (!v)) (by simp; omega)).trans ((hb3.block _ (by omega)).trans G3.out))
        have Hb3 := Lib.hid (Hb2.out.trans (hb3.mono (B' := w.heap.size) (by omega)))
        have Hg3 := Lib.hid (show g < w3.heap.size from Nat.lt_of_lt_of_le hgw hb3.size)
        clear hgw Ho3 hb3 hgg hlk
        go_wp2_with fail
        case roundEnd =>
          refine ⟨⟨k + 1, by omega, by push_cast; rfl, Lib.hid ?_, Gn2, Gn3, Lib.hid (by rw [size_set]; exact Hg3.out), Lib.hid (Hb3.out.setCell (p := ⟨g, k, none⟩) (by have := Hg.out; show w.heap.size ≤ g; omega) _)⟩, by simp only [intOf]; omega⟩
          have h := Hst.out
          have e : (lv (half (fun j => has a b j && !has c d j) (has a b) k)).set k (.bool (!v)) = lv (half (fun j => has a b j && !has c d j) (has a b) (k + 1)) := by rw [← Hset.out]; simp [lv, List.map_set]
          rw [e] at h
          exact h
    · obtain rfl : k = 128 := by omega
      have hr := Ho.out.reads
      rw [lv_length, half_length] at hr
      have Hr := Lib.hid hr
      clear hr
      go_wp2_with fail
      refine (made_any (some ⟨g, 0, none⟩) _ cc (half_length _ _ _) wr Hr.out).mono ?_
      rintro e w4 ⟨rfl, hb4⟩
      rw [Hof.out.1, Hof.out.2]
      have Hb4 := Lib.hid (Hb2.out.trans (hb4.mono (B' := w.heap.size) (by have := Hgw.out; have := Hg.out; omega)))
      have G4 := (hb4.block (w.heap.size + 2) (by have := Hgw.out; have := Hg.out; omega)).trans G3.out
      obtain ⟨c2, c3, f2, f3⟩ := cells2 G4
      have E := Lib.hid (set2 G4 (.int .u64 ((andn a c) : Nat)) (.int .u64 ((andn b d) : Nat)))
      clear hb4 G4
      go_wp2_with fail
      try simp only [Exit.inBlock, Exit.then]
      exact bodyPost_ret (results_cell_row rfl _ _ (w.heap.size + 2) _ _ _ _ rfl E.out Tryd.underlying30 rfl (by kernel_rfl)) rfl ⟨rfl, below_set2 Hb4.out (by omega) _ _⟩

end Go.Proofs.YtiolfnnkkflaiaaDoor
