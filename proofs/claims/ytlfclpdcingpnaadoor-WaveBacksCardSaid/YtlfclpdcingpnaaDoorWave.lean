/- Turns, and the sum of the turns of a set. -/
import Derived.Test.YtlfclpdcingpnaaDoorSetOf
import Derived.Test.YtlfclpdcingpnaaDoorFloat
open Go.RowKit
namespace Go.Proofs.YtlfclpdcingpnaaDoor

theorem store_f (P : Program) (w : World) (a : Addr) (m : Mode) (k : FloatKind) (b : Nat) : (store a (.float k b) m).run P w = stored P w a (.float k b) m := run_store P w a _ m rfl
theorem store_c (P : Program) (w : World) (a : Addr) (m : Mode) (k : FloatKind) (x y : Nat) : (store a (.complex k x y) m).run P w = stored P w a (.complex k x y) m := run_store P w a _ m rfl
attribute [local go_sem] store_f store_c

theorem refOfNil_any (w : World) :
    Calls Tryd.prog 8 #[.slice none 0 0] w fun e w' => e = .returned (.tuple #[.agg #[.int .u64 0, .int .u64 0], .int .i64 0]) ∧ Below w.heap.size w w' := by
  have hb1 := ((Below.refl w.heap.size w).alloc (Nat.le_refl _) (.cells #[.int .u64 0, .int .u64 0] 26)).alloc (by rw [size_alloc]; omega) (.cells #[.int .u64 0, .int .u64 0] 26)
  have hg0 : ((w.alloc (.cells #[.int .u64 0, .int .u64 0] 26)).alloc (.cells #[.int .u64 0, .int .u64 0] 26)).heap[w.heap.size]? = some (.cells #[.int .u64 0, .int .u64 0] 26 (0, 0)) := by
    rw [heap_alloc_old _ _ (by rw [size_alloc]; omega)]; exact heap_alloc_new _ _
  have hg1 := heap_alloc_new (w.alloc (.cells #[.int .u64 0, .int .u64 0] 26)) (.cells #[.int .u64 0, .int .u64 0] 26)
  rw [size_alloc] at hg1
  go_enter Tryd.func8, Tryd.ntmps8
  go_wp2
  generalize (w.alloc (.cells #[.int .u64 0, .int .u64 0] 26)).alloc (.cells #[.int .u64 0, .int .u64 0] 26) = w1 at hb1 hg0 hg1 ⊢
  have Hb1 := Lib.hid hb1
  have Hg0 := Lib.hid hg0
  have Hg1 := Lib.hid hg1
  clear hb1 hg0 hg1
  go_loopw [5] (fun i wr => i = .int .i64 0 ∧ wr = w1) (fun i _ => 0)
  case atStart => exact ⟨rfl, rfl⟩
  case round =>
    obtain ⟨rfl, rfl⟩ := hrel
    have hc0 : wr.cell? ⟨w.heap.size, 0, none⟩ = some (.int .u64 0) := by rw [cell_of_row _ _ _ _ _ _ Hg0.out]; rfl
    have hc1 : wr.cell? ⟨w.heap.size, 1, none⟩ = some (.int .u64 0) := by rw [cell_of_row _ _ _ _ _ _ Hg0.out]; rfl
    have hc2 : wr.cell? ⟨w.heap.size + 1, 0, none⟩ = some (.int .u64 0) := by rw [cell_of_row _ _ _ _ _ _ Hg1.out]; rfl
    have hc3 : wr.cell? ⟨w.heap.size + 1, 1, none⟩ = some (.int .u64 0) := by rw [cell_of_row _ _ _ _ _ _ Hg1.out]; rfl
    have hf0 : wr.frozen? ⟨w.heap.size, 0, none⟩ = false := frozen_of_row _ _ _ _ _ Hg0.out
    have hf1 : wr.frozen? ⟨w.heap.size, 1, none⟩ = false := frozen_of_row _ _ _ _ _ Hg0.out
    have e1 := heap_setCell_same wr w.heap.size 0 _ _ (.int .u64 0) Hg0.out
    have e2 := heap_setCell_same _ w.heap.size 1 _ _ (.int .u64 0) e1
    have E2 := Lib.hid e2
    clear e1 e2
    go_wp2
    try simp only [Exit.inBlock, Exit.then]
    exact bodyPost_ret (results_cell_tmp_row rfl _ _ w.heap.size _ _ _ _ rfl E2.out Tryd.underlying26 rfl (by kernel_rfl)) rfl ⟨rfl, (Hb1.out.setCell (p := ⟨w.heap.size, 0, none⟩) (Nat.le_refl _) _).setCell (p := ⟨w.heap.size, 1, none⟩) (Nat.le_refl _) _⟩

theorem tmod4_ge (k : Int) : -4 < k.tmod 4 ∧ k.tmod 4 < 4 := by
  rcases Int.le_total 0 k with h | h
  · rw [Int.tmod_eq_emod_of_nonneg h]; omega
  · obtain ⟨j, rfl⟩ : ∃ j, k = -j := ⟨-k, by omega⟩
    rw [Int.neg_tmod, Int.tmod_eq_emod_of_nonneg (by omega)]; omega
theorem tmod_lane (k : Int) : ((k.tmod 4 + 4).tmod 4) = k % 4 := by
  have h1 := tmod4_ge k
  rw [Int.tmod_eq_emod_of_nonneg (by omega)]
  have h2 := Int.tmod_add_mul_tdiv k 4
  omega
theorem lane_any (k : Int) (w : World) : Calls Tryd.prog 29 #[.int .i64 k] w fun e w' => e = .returned (.int .i64 (k % 4)) ∧ w = w' := by
  have h1 := tmod4_ge k
  have h3 := Lib.hid (tmod_lane k)
  go_enter Tryd.func29, Tryd.ntmps29
  go_wp2
  go_ret
  refine ⟨?_, rfl⟩
  have e : (k.tmod 4 + 4) % 4 = k % 4 := by have h2 := Int.tmod_add_mul_tdiv k 4; omega
  show Ending.returned (.int .i64 ((k.tmod 4 + 4) % 4)) = _
  rw [e]

/-- The words of 1 and of -1. -/
theorem IsI.one : IsI 4607182418800017408 1 := ⟨false, 1, by decide +kernel, by omega, rfl⟩
theorem IsI.neg : IsI 13830554455654793216 (-1) := ⟨true, 1, by decide +kernel, by omega, rfl⟩
theorem IsI.zero : IsI 0 0 := ⟨false, 0, by decide +kernel, by omega, rfl⟩
/-- The k-th turn: its words, its parts. -/
def turnB (k : Int) : Nat × Nat := if k % 4 = 0 then (4607182418800017408, 0) else if k % 4 = 1 then (0, 4607182418800017408) else if k % 4 = 2 then (13830554455654793216, 0) else (0, 13830554455654793216)
def turnZ (k : Int) : Int × Int := if k % 4 = 0 then (1, 0) else if k % 4 = 1 then (0, 1) else if k % 4 = 2 then (-1, 0) else (0, -1)
theorem turn_is (k : Int) : IsI (turnB k).1 (turnZ k).1 ∧ IsI (turnB k).2 (turnZ k).2 := by
  unfold turnB turnZ
  split
  · exact ⟨IsI.one, IsI.zero⟩
  split
  · exact ⟨IsI.zero, IsI.one⟩
  split
  · exact ⟨IsI.neg, IsI.zero⟩
  · exact ⟨IsI.zero, IsI.neg⟩
theorem turnZ_abs (k : Int) : (turnZ k).1.natAbs ≤ 1 ∧ (turnZ k).2.natAbs ≤ 1 := by
  unfold turnZ
  split
  · exact ⟨by simp, by simp⟩
  split
  · exact ⟨by simp, by simp⟩
  split
  · exact ⟨by simp, by simp⟩
  · exact ⟨by simp, by simp⟩

def turnsV : Value := .agg #[.complex .f64 4607182418800017408 0, .complex .f64 0 4607182418800017408, .complex .f64 13830554455654793216 0, .complex .f64 0 13830554455654793216]
set_option maxRecDepth 100000 in
theorem turns_any (w : World) : Calls Tryd.prog 28 #[] w fun e w' => e = .returned turnsV ∧ Below w.heap.size w w' := by
  go_enter Tryd.func28, Tryd.ntmps28
  go_wp2
  try simp only [Exit.inBlock, Exit.then]
  exact bodyPost_ret (results_cell_row rfl _ _ w.heap.size _ _ _ _ rfl (heap_alloc_new _ _) Tryd.underlying39 rfl (by kernel_rfl)) rfl ⟨rfl, (Below.refl _ _).alloc (Nat.le_refl _) _⟩

theorem index_turns (k : Int) (W : World) : (Instr.index 39 turnsV (.int .i64 (k % 4))).run Tryd.prog W = .ok (.complex .f64 (turnB k).1 (turnB k).2) W := by
  unfold turnB
  rcases (by omega : k % 4 = 0 ∨ k % 4 = 1 ∨ k % 4 = 2 ∨ k % 4 = 3) with h | h | h | h <;> rw [h] <;> kernel_rfl

theorem turn_any (k : Int) (w : World) : Calls Tryd.prog 11 #[.int .i64 k] w fun e w' => e = .returned (.complex .f64 (turnB k).1 (turnB k).2) ∧ Below w.heap.size w w' := by
  have hix := index_turns k
  go_enter Tryd.func11, Tryd.ntmps11
  go_wp2_with fail
  refine (turns_any w).mono ?_
  rintro e w1 ⟨rfl, hb1⟩
  generalize turnsV = tv at hix ⊢
  go_wp2_with fail
  refine (lane_any k w1).mono ?_
  rintro e w2 ⟨rfl, rfl⟩
  go_wp2_with fail
  go_ret
  exact ⟨rfl, hb1⟩

/-- The sum of the turns of a list: its two parts. -/
def tre (l : List Nat) : Int := (l.map fun (n : Nat) => (turnZ (n : Int)).1).sum
def tim (l : List Nat) : Int := (l.map fun (n : Nat) => (turnZ (n : Int)).2).sum
theorem tre_snoc (l : List Nat) (n : Nat) : tre (l ++ [n]) = tre l + (turnZ n).1 := by simp [tre]
theorem tim_snoc (l : List Nat) (n : Nat) : tim (l ++ [n]) = tim l + (turnZ n).2 := by simp [tim]
theorem tre_abs (l : List Nat) : (tre l).natAbs ≤ l.length ∧ (tim l).natAbs ≤ l.length := by
  induction l with
  | nil => exact ⟨by simp [tre], by simp [tim]⟩
  | cons a l ih =>
    have h := turnZ_abs a
    have e1 : tre (a :: l) = (turnZ a).1 + tre l := by simp [tre]
    have e2 : tim (a :: l) = (turnZ a).2 + tim l := by simp [tim]
    rw [e1, e2, List.length_cons]
    omega
theorem lst_len (a b : Nat) : (lst a b).length ≤ 128 := filter_le a b 128

set_option maxRecDepth 100000 in
theorem mark_any (a b : Nat) (ha : a < 18446744073709551616) (hb : b < 18446744073709551616) (w : World) (hT : TabAt 0 Lib.deBruijn64tab w) :
    Calls Tryd.prog 10 #[.agg #[.int .u64 a, .int .u64 b]] w fun e w' => ∃ x y, e = .returned (.complex .f64 x y) ∧ IsI x (tre (lst a b)) ∧ IsI y (tim (lst a b)) ∧ Below w.heap.size w w' := by
  have Ha := Lib.hid ha
  have Hb := Lib.hid hb
  have HT := Lib.hid hT
  clear ha hb hT
  have hb1 := (Below.refl w.heap.size w).alloc (Nat.le_refl _) (.cells #[.int .u64 a, .int .u64 b] 33)
  have hs1 : (w.alloc (.cells #[.int .u64 a, .int .u64 b] 33)).heap.size = w.heap.size + 1 := size_alloc _ _
  go_enter Tryd.func10, Tryd.ntmps10
  go_wp2_with fail
  generalize w.alloc (.cells #[.int .u64 a, .int .u64 b] 33) = w1 at hb1 hs1 ⊢
  have HT1 := Lib.hid (tab_below HT.out hb1 (tab_lt HT.out))
  have Hb1 := Lib.hid hb1
  have Hs1 := Lib.hid hs1
  clear hb1 hs1 HT
  refine (bitsList_any a b Ha.out Hb.out w1 HT1.out).mono ?_
  rintro e w2 ⟨A, c, rfl, ho2, hb2⟩
  have Ho2 := Lib.hid ho2
  have Hb2 := Lib.hid (Hb1.out.trans (hb2.mono (by rw [Hs1.out]; omega)))
  have hlen := lst_len a b
  generalize hL : lst a b = L at Ho2 hlen ⊢
  have HL := Lib.hid hL
  clear ho2 hb2 hL
  go_wp2
  go_loopw [3, 9] (fun s i wr => ∃ (k x y : Nat), k ≤ L.length ∧ i = .int .i64 k ∧ s = .complex .f64 x y ∧ Hid (IsI x (tre (L.take k)) ∧ IsI y (tim (L.take k))) ∧ Hid (Below w2.heap.size w2 wr)) (fun _ i _ => L.length - (intOf i).toNat)
  case atStart => exact ⟨0, 0, 0, Nat.zero_le _, rfl, rfl, ⟨by simpa [tre] using IsI.zero, by simpa [tim] using IsI.zero⟩, Below.refl _ _⟩
  case round =>
    obtain ⟨k, x, y, hk, rfl, rfl, Hxy, Hbel⟩ := hrel
    by_cases hlt : k < L.length
    · obtain ⟨ad, rfl, hcell⟩ := (Ho2.out.below Hbel.out).reads.at_ (k := k) (by rw [nv_length]; exact hlt) (u := .int .i64 L[k]) (by simp [nv, hlt])
      have Htk := Lib.hid (List.take_append_getElem hlt).symm
      have Habs := Lib.hid (tre_abs (L.take k))
      generalize L[k] = n at hcell Htk
      go_wp2_with fail
      refine (turn_any n wr).mono ?_
      rintro e w3 ⟨rfl, hb3⟩
      have hlk : (L.take k).length = k := by rw [List.length_take]; omega
      have habs := Habs.out
      rw [hlk] at habs
      obtain ⟨t1, t2⟩ := turnZ_abs n
      obtain ⟨r1, hr1, hR1⟩ := IsI.add Hxy.out.1 (turn_is n).1 (by omega)
      obtain ⟨r2, hr2, hR2⟩ := IsI.add Hxy.out.2 (turn_is n).2 (by omega)
      have hsum := fun W : World => run_complex_sum (P := Tryd.prog) W .add (.inl rfl) 31 .f64 x y (turnB n).1 (turnB n).2 r1 r2 (by unfold cSumBits; rw [hr1, hr2]; rfl)
      have HR := Lib.hid (And.intro hR1 hR2)
      rw [← tre_snoc, ← tim_snoc] at HR
      have Hb3 := Lib.hid (Hbel.out.trans (hb3.mono Hbel.out.size))
      clear hr1 hr2 hR1 hR2 t1 t2 habs hb3
      generalize turnB n = tb at hsum ⊢
      go_wp2_with fail
      case roundEnd =>
        exact ⟨⟨k + 1, r1, r2, by omega, by push_cast; rfl, rfl, Lib.hid (by rw [Htk.out]; exact HR.out), Hb3⟩, by simp only [intOf]; omega⟩
    · go_wp2
      go_ret
      have e : L.take k = L := List.take_of_length_le (by omega)
      have h := Hxy.out
      rw [e] at h
      exact ⟨x, y, rfl, by rw [HL.out]; exact h.1, by rw [HL.out]; exact h.2, Hb2.out.trans (Hbel.out.mono Hb2.out.size)⟩
end Go.Proofs.YtlfclpdcingpnaaDoor
