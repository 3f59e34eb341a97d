/- The reference's sets: With, List, Of. -/
import Derived.Test.YtiolfnnkkflaiaaDoorSet
open Go.RowKit
namespace Go.Proofs.YtiolfnnkkflaiaaDoor

/-- One more. -/
def sput (a b i : Nat) : Nat × Nat := if i < 64 then (a ||| 2 ^ i, b) else (a, b ||| 2 ^ (i - 64))
theorem sput_lt (a b i : Nat) (ha : a < 18446744073709551616) (hb : b < 18446744073709551616) (hi : i < 128) : (sput a b i).1 < 18446744073709551616 ∧ (sput a b i).2 < 18446744073709551616 := by
  unfold sput
  have h (k : Nat) (hk : k < 64) : (2 : Nat) ^ k < 2 ^ 64 := Nat.pow_lt_pow_right (by omega) hk
  split
  · exact ⟨Nat.or_lt_two_pow (n := 64) ha (h i (by omega)), hb⟩
  · exact ⟨ha, Nat.or_lt_two_pow (n := 64) hb (h (i - 64) (by omega))⟩
theorem at_tell (a b k : Nat) (hk : k < 128) : at_ (tell a b 128) k = has a b k := by
  simp [at_, tell, List.getD, hk]
theorem ofBits_with (a b i : Nat) (ha : a < 18446744073709551616) (hb : b < 18446744073709551616) (hi : i < 128) :
    ofBits (at_ ((tell a b 128).set i true)) 64 = (sput a b i).1 ∧ ofBits (fun j => at_ ((tell a b 128).set i true) (64 + j)) 64 = (sput a b i).2 := by
  have hat : ∀ k, k < 128 → at_ ((tell a b 128).set i true) k = (decide (i = k) || has a b k) := by
    intro k hk
    unfold at_
    rw [List.getD_eq_getElem?_getD, List.getElem?_set]
    by_cases h : i = k
    · subst h; simp [tell_length, hi]
    · have := at_tell a b k hk
      unfold at_ at this
      rw [List.getD_eq_getElem?_getD] at this
      simp [h, this]
  have big (x k : Nat) (hx : x < 18446744073709551616) (hk : 64 ≤ k) : x.testBit k = false :=
    Nat.testBit_lt_two_pow (Nat.lt_of_lt_of_le hx (Nat.pow_le_pow_right (n := 2) (i := 64) (by omega) hk))
  constructor
  · apply Nat.eq_of_testBit_eq
    intro k
    rw [ofBits_testBit]
    unfold sput
    by_cases hk : k < 64
    · rw [hat k (by omega)]
      split
      · rename_i h
        rw [Nat.testBit_or, Nat.testBit_two_pow]
        simp [hk, has, Bool.or_comm]
      · rename_i h
        have : i ≠ k := by omega
        simp [hk, has, this]
    · have e : decide (k < 64) = false := by simp [hk]
      rw [e]
      split
      · rename_i h
        rw [Nat.testBit_or, Nat.testBit_two_pow, big a k ha (by omega)]
        simp; omega
      · rw [big a k ha (by omega)]; rfl
  · apply Nat.eq_of_testBit_eq
    intro k
    rw [ofBits_testBit]
    unfold sput
    by_cases hk : k < 64
    · rw [hat (64 + k) (by omega)]
      split
      · rename_i h
        have : i ≠ 64 + k := by omega
        have n64 : ¬ (64 + k < 64) := by omega
        simp [hk, has, this, n64]
      · rename_i h
        rw [Nat.testBit_or, Nat.testBit_two_pow]
        have e : (i = 64 + k) = (i - 64 = k) := by simp; omega
        have n64 : ¬ (64 + k < 64) := by omega
        simp [hk, has, e, n64, Bool.or_comm]
    · have e : decide (k < 64) = false := by simp [hk]
      rw [e]
      split
      · rw [big b k hb (by omega)]; rfl
      · rename_i h
        rw [Nat.testBit_or, Nat.testBit_two_pow, big b k hb (by omega)]
        simp; omega

set_option maxRecDepth 100000 in
theorem refWith_any (a b i : Nat) (ha : a < 18446744073709551616) (hb : b < 18446744073709551616) (hi : i < 128) (w : World) :
    Calls Tryd.prog 10 #[.agg #[.int .u64 a, .int .u64 b], .int .i64 i] w fun e w' => e = .returned (.tuple #[.agg #[.int .u64 ((sput a b i).1 : Nat), .int .u64 ((sput a b i).2 : Nat)], .int .i64 0]) ∧ Below w.heap.size w w' := by
  have Ha := Lib.hid ha
  have Hb := Lib.hid hb
  clear ha hb
  go_enter Tryd.func10, Tryd.ntmps10
  have hc0 : ((w.alloc (.cells #[.int .u64 a, .int .u64 b] 30)).alloc (.cells #[.int .u64 0, .int .u64 0] 30)).cell? ⟨w.heap.size, 0, none⟩ = some (.int .u64 a) := by
    rw [World.cell?_alloc_lt _ _ _ (by rw [size_alloc]; show w.heap.size < _; omega), cell_of_row _ _ _ _ _ _ (heap_alloc_new _ _)]; rfl
  have hc1 : ((w.alloc (.cells #[.int .u64 a, .int .u64 b] 30)).alloc (.cells #[.int .u64 0, .int .u64 0] 30)).cell? ⟨w.heap.size, 1, none⟩ = some (.int .u64 b) := by
    rw [World.cell?_alloc_lt _ _ _ (by rw [size_alloc]; show w.heap.size < _; omega), cell_of_row _ _ _ _ _ _ (heap_alloc_new _ _)]; rfl
  have hb1 := ((Below.refl w.heap.size w).alloc (Nat.le_refl _) (.cells #[.int .u64 a, .int .u64 b] 30)).alloc (by rw [size_alloc]; omega) (.cells #[.int .u64 0, .int .u64 0] 30)
  have hg1 := heap_alloc_new (w.alloc (.cells #[.int .u64 a, .int .u64 b] 30)) (.cells #[.int .u64 0, .int .u64 0] 30)
  have hs1 : ((w.alloc (.cells #[.int .u64 a, .int .u64 b] 30)).alloc (.cells #[.int .u64 0, .int .u64 0] 30)).heap.size = w.heap.size + 2 := by rw [size_alloc, size_alloc]
  rw [size_alloc] at hg1
  have Hb1 := Lib.hid hb1
  have Hg1 := Lib.hid hg1
  clear hb1 hg1
  go_wp2_with fail
  generalize (w.alloc (.cells #[.int .u64 a, .int .u64 b] 30)).alloc (.cells #[.int .u64 0, .int .u64 0] 30) = w1 at hc0 hc1 hs1 Hb1 Hg1 ⊢
  clear hc0 hc1
  have Hs1 := Lib.hid hs1
  clear hs1
  refine (told_any a b Ha.out Hb.out w1).mono ?_
  rintro e w2 ⟨A, c, rfl, ho, hb2⟩
  have hl2 : (lv (tell a b 128)).length = 128 := by rw [lv_length, tell_length]
  obtain ⟨g, rfl, hg, hg'⟩ := ho.form (by omega)
  have hcell : w2.cell? ⟨g, i, none⟩ = some (lv (tell a b 128))[i] := ho.cell (by omega)
  have hfro := ho.frozen i
  have Ho := Lib.hid (ho.set i (.bool true))
  have Hb2 := Lib.hid ((Hb1.out.trans (hb2.mono (by rw [Hs1.out]; omega))).setCell (p := ⟨g, i, none⟩) (show w.heap.size ≤ g by rw [Hs1.out] at hg; omega) (.bool true))
  have Hg2 := Lib.hid ((heap_setCell_other w2 ⟨g, i, none⟩ (w.heap.size + 1) (.bool true) (show w.heap.size + 1 ≠ g by rw [Hs1.out] at hg; omega)).trans ((hb2.block (w.heap.size + 1) (by rw [Hs1.out]; omega)).trans Hg1.out))
  have hs2 : w.heap.size + 1 < w2.heap.size := by have := hb2.size; rw [Hs1.out] at this; omega
  have Hs2 := Lib.hid hs2
  clear ho hb2 Hb1 Hg1 hg hg' hl2 hs2
  go_wp2_with fail
  generalize hw3 : w2.setCell ⟨g, i, none⟩ (.bool true) = w3 at Ho Hb2 Hg2 ⊢
  have Hs3 : Hid (w.heap.size + 1 < w3.heap.size) := by rw [← hw3]; show _ < (World.setCell _ _ _).heap.size; simp only [World.setCell, Array.size_modify]; exact Hs2.out
  clear hcell hfro Hs2 hw3
  have hset : (lv (tell a b 128)).set i (.bool true) = lv ((tell a b 128).set i true) := by simp [lv, List.map_set]
  have hr := Ho.out.reads
  rw [hset] at hr
  rw [lv_length, List.length_set, tell_length] at hr
  refine (made_any (some ⟨g, 0, none⟩) ((tell a b 128).set i true) c (by rw [List.length_set, tell_length]) w3 hr).mono ?_
  rintro e w4 ⟨rfl, hb4⟩
  obtain ⟨e1, e2⟩ := ofBits_with a b i Ha.out Hb.out hi
  rw [e1, e2]
  have Hb4 := Lib.hid (Hb2.out.trans (hb4.mono Hb2.out.size))
  have Hg4 := Lib.hid ((hb4.block (w.heap.size + 1) Hs3.out).trans Hg2.out)
  clear hb4 hset hr e1 e2 Ho
  have hc0 : w4.cell? ⟨w.heap.size + 1, 0, none⟩ = some (.int .u64 0) := by rw [cell_of_row _ _ _ _ _ _ Hg4.out]; rfl
  have hc1 : w4.cell? ⟨w.heap.size + 1, 1, none⟩ = some (.int .u64 0) := by rw [cell_of_row _ _ _ _ _ _ Hg4.out]; rfl
  have hf0 : w4.frozen? ⟨w.heap.size + 1, 0, none⟩ = false := frozen_of_row _ _ _ _ _ Hg4.out
  have hf1 : w4.frozen? ⟨w.heap.size + 1, 1, none⟩ = false := frozen_of_row _ _ _ _ _ Hg4.out
  have e1 := heap_setCell_same w4 (w.heap.size + 1) 0 _ _ (.int .u64 ((sput a b i).1 : Nat)) Hg4.out
  have e2 := heap_setCell_same _ (w.heap.size + 1) 1 _ _ (.int .u64 ((sput a b i).2 : Nat)) e1
  have E2 := Lib.hid e2
  clear e1 e2
  go_wp2
  refine bodyPost_ret (results_cell_tmp_row rfl _ _ (w.heap.size + 1) _ _ _ _ rfl E2.out Tryd.underlying30 rfl (by kernel_rfl)) rfl ⟨rfl, (Hb4.out.setCell (p := ⟨w.heap.size + 1, 0, none⟩) (by show w.heap.size ≤ w.heap.size + 1; omega) _).setCell (p := ⟨w.heap.size + 1, 1, none⟩) (by show w.heap.size ≤ w.heap.size + 1; omega) _⟩
end Go.Proofs.YtiolfnnkkflaiaaDoor
