/- Lanes, and whether they are alike. -/
import Derived.Test.YtlfclpdcingpnaaDoorWave
import Derived.Test.YtlfclpdcingpnaaDoorArrEq
open Go.RowKit
namespace Go.Proofs.YtlfclpdcingpnaaDoor
attribute [local go_sem] store_f store_c

/-- How many of a list are in a lane. -/
def cnt (j : Nat) (l : List Nat) : Int := ((l.filter fun n => n % 4 == j).length : Nat)
theorem cnt_hit (j : Nat) (l : List Nat) (n : Nat) (h : n % 4 = j) : cnt j (l ++ [n]) = cnt j l + 1 := by simp [cnt, h]
theorem cnt_miss (j : Nat) (l : List Nat) (n : Nat) (h : n % 4 ≠ j) : cnt j (l ++ [n]) = cnt j l := by simp [cnt, h]
theorem cnt_le (j : Nat) (l : List Nat) : 0 ≤ cnt j l ∧ cnt j l ≤ l.length := by
  have := List.length_filter_le (fun n => n % 4 == j) l
  unfold cnt; omega

theorem gset (w : World) (g i : Nat) (v : Value) : w.grownBy (w.setCell ⟨g, i, none⟩ v) (some g) :=
  ⟨rfl, rfl, rfl, by simp [World.setCell], fun k _ hk => heap_setCell_other _ _ _ _ (fun e => hk (by rw [e]))⟩
theorem gtrans {a b c : World} {r : Option Nat} (h : a.grownBy b r) (k : b.grownBy c r) : a.grownBy c r :=
  ⟨k.os.trans h.os, k.tape.trans h.tape, k.output.trans h.output, Nat.le_trans h.size k.size, fun i hi hn => (k.block i (Nat.lt_of_lt_of_le hi h.size) hn).trans (h.block i hi hn)⟩

set_option maxHeartbeats 1000000 in
set_option maxRecDepth 100000 in
theorem lanes_any (a b : Nat) (ha : a < 18446744073709551616) (hb : b < 18446744073709551616) (w : World) (hT : TabAt 0 Lib.deBruijn64tab w) :
    Calls Tryd.prog 12 #[.agg #[.int .u64 a, .int .u64 b]] w fun e w' => ∃ x0 x1 x2 x3, e = .returned (.agg #[.float .f64 x0, .float .f64 x1, .float .f64 x2, .float .f64 x3]) ∧ (IsI x0 (cnt 0 (lst a b)) ∧ IsI x1 (cnt 1 (lst a b)) ∧ IsI x2 (cnt 2 (lst a b)) ∧ IsI x3 (cnt 3 (lst a b))) ∧ Below w.heap.size w w' := by
  have Ha := Lib.hid ha
  have Hb := Lib.hid hb
  have HT := Lib.hid hT
  clear ha hb hT
  have hb1 := (((Below.refl w.heap.size w).alloc (Nat.le_refl _) (.cells #[.int .u64 a, .int .u64 b] 33)).alloc (by rw [size_alloc]; omega) (.cells #[.float .f64 0, .float .f64 0, .float .f64 0, .float .f64 0] 37)).alloc (by rw [size_alloc, size_alloc]; omega) (.cells #[.float .f64 0, .float .f64 0, .float .f64 0, .float .f64 0] 37)
  have hs1 : (((w.alloc (.cells #[.int .u64 a, .int .u64 b] 33)).alloc (.cells #[.float .f64 0, .float .f64 0, .float .f64 0, .float .f64 0] 37)).alloc (.cells #[.float .f64 0, .float .f64 0, .float .f64 0, .float .f64 0] 37)).heap.size = w.heap.size + 3 := by rw [size_alloc, size_alloc, size_alloc]
  have hg2 : (((w.alloc (.cells #[.int .u64 a, .int .u64 b] 33)).alloc (.cells #[.float .f64 0, .float .f64 0, .float .f64 0, .float .f64 0] 37)).alloc (.cells #[.float .f64 0, .float .f64 0, .float .f64 0, .float .f64 0] 37)).heap[w.heap.size + 1]? = some (.cells #[.float .f64 0, .float .f64 0, .float .f64 0, .float .f64 0] 37 (0, 0)) := by
    have := heap_alloc_new (w.alloc (.cells #[.int .u64 a, .int .u64 b] 33)) (.cells #[.float .f64 0, .float .f64 0, .float .f64 0, .float .f64 0] 37)
    rw [size_alloc] at this
    rw [heap_alloc_old _ _ (by rw [size_alloc, size_alloc]; omega)]; exact this
  have hg3 := heap_alloc_new ((w.alloc (.cells #[.int .u64 a, .int .u64 b] 33)).alloc (.cells #[.float .f64 0, .float .f64 0, .float .f64 0, .float .f64 0] 37)) (.cells #[.float .f64 0, .float .f64 0, .float .f64 0, .float .f64 0] 37)
  rw [size_alloc, size_alloc] at hg3
  go_enter Tryd.func12, Tryd.ntmps12
  go_wp2_with fail
  generalize ((w.alloc (.cells #[.int .u64 a, .int .u64 b] 33)).alloc (.cells #[.float .f64 0, .float .f64 0, .float .f64 0, .float .f64 0] 37)).alloc (.cells #[.float .f64 0, .float .f64 0, .float .f64 0, .float .f64 0] 37) = w1 at hb1 hs1 hg2 hg3 ⊢
  have HT1 := Lib.hid (tab_below HT.out hb1 (tab_lt HT.out))
  have Hb1 := Lib.hid hb1
  have Hs1 := Lib.hid hs1
  have Hg2 := Lib.hid hg2
  have Hg3 := Lib.hid hg3
  clear hb1 hs1 HT hg2 hg3
  refine (bitsList_any a b Ha.out Hb.out w1 HT1.out).mono ?_
  rintro e w2 ⟨A, c, rfl, ho2, hb2⟩
  have Ho2 := Lib.hid (ho2.mono (b2 := w.heap.size + 3) (by rw [Hs1.out]; omega))
  have Hb2 := Lib.hid (Hb1.out.trans (hb2.mono (by rw [Hs1.out]; omega)))
  have G2 := Lib.hid ((hb2.block _ (by rw [Hs1.out]; omega)).trans Hg2.out)
  have G3 := Lib.hid ((hb2.block _ (by rw [Hs1.out]; omega)).trans Hg3.out)
  have hlen := lst_len a b
  generalize hL : lst a b = L at Ho2 hlen ⊢
  have HL := Lib.hid hL
  clear ho2 hb2 hL Hg2 Hg3
  go_wp2
  go_loopw [9] (fun i wr => ∃ (k x0 x1 x2 x3 : Nat), k ≤ L.length ∧ i = .int .i64 k ∧ Hid (IsI x0 (cnt 0 (L.take k)) ∧ IsI x1 (cnt 1 (L.take k)) ∧ IsI x2 (cnt 2 (L.take k)) ∧ IsI x3 (cnt 3 (L.take k))) ∧ Hid (wr.heap[w.heap.size + 1]? = some (.cells #[.float .f64 0, .float .f64 0, .float .f64 0, .float .f64 0] 37 (0, 0))) ∧ Hid (wr.heap[w.heap.size + 2]? = some (.cells #[.float .f64 x0, .float .f64 x1, .float .f64 x2, .float .f64 x3] 37 (0, 0))) ∧ Hid (Below w.heap.size w wr) ∧ Hid (w2.grownBy wr (some (w.heap.size + 2)))) (fun i _ => L.length - (intOf i).toNat)
  case atStart => exact ⟨0, 0, 0, 0, 0, Nat.zero_le _, rfl, ⟨by simpa [cnt] using IsI.zero, by simpa [cnt] using IsI.zero, by simpa [cnt] using IsI.zero, by simpa [cnt] using IsI.zero⟩, G2, G3, Hb2, World.grownBy.refl _ _⟩
  case round =>
    obtain ⟨k, x0, x1, x2, x3, hk, rfl, Hx, H2, H3, Hbel, HB⟩ := hrel
    have hc0 : wr.cell? ⟨w.heap.size + 2, 0, none⟩ = some (.float .f64 x0) := by rw [cell_of_row _ _ _ _ _ _ H3.out]; rfl
    have hc1 : wr.cell? ⟨w.heap.size + 2, 1, none⟩ = some (.float .f64 x1) := by rw [cell_of_row _ _ _ _ _ _ H3.out]; rfl
    have hc2 : wr.cell? ⟨w.heap.size + 2, 2, none⟩ = some (.float .f64 x2) := by rw [cell_of_row _ _ _ _ _ _ H3.out]; rfl
    have hc3 : wr.cell? ⟨w.heap.size + 2, 3, none⟩ = some (.float .f64 x3) := by rw [cell_of_row _ _ _ _ _ _ H3.out]; rfl
    by_cases hlt : k < L.length
    · have Ho3 := Lib.hid (Ho2.out.keepG HB.out (by omega))
      obtain ⟨ad, rfl, hcell⟩ := Ho3.out.reads.at_ (k := k) (by rw [nv_length]; exact hlt) (u := .int .i64 L[k]) (by simp [nv, hlt])
      have Htk := Lib.hid (List.take_append_getElem hlt).symm
      have hc4 : (L.take k).length = k := by rw [List.length_take]; omega
      have l0 := cnt_le 0 (L.take k)
      have l1 := cnt_le 1 (L.take k)
      have l2 := cnt_le 2 (L.take k)
      have l3 := cnt_le 3 (L.take k)
      generalize L[k] = n at hcell Htk
      have hf0 : wr.frozen? ⟨w.heap.size + 2, 0, none⟩ = false := frozen_of_row _ _ _ _ _ H3.out
      have hf1 : wr.frozen? ⟨w.heap.size + 2, 1, none⟩ = false := frozen_of_row _ _ _ _ _ H3.out
      have hf2 : wr.frozen? ⟨w.heap.size + 2, 2, none⟩ = false := frozen_of_row _ _ _ _ _ H3.out
      have hf3 : wr.frozen? ⟨w.heap.size + 2, 3, none⟩ = false := frozen_of_row _ _ _ _ _ H3.out
      go_wp2_with fail
      refine (lane_any n wr).mono ?_
      rintro e w3 ⟨rfl, rfl⟩
      rcases (by omega : (n : Int) % 4 = 0 ∨ (n : Int) % 4 = 1 ∨ (n : Int) % 4 = 2 ∨ (n : Int) % 4 = 3) with hn | hn | hn | hn
      · have HX := Hx.out.1
        obtain ⟨r, hr, hR⟩ := IsI.add HX IsI.one (by omega)
        have hadd := fun W : World => run_float_arith (P := Tryd.prog) W .add 36 .f64 x0 4607182418800017408 r hr
        have HR := Lib.hid hR
        have hj : n % 4 = 0 := by omega
        clear hr hR HX
        rw [hn]
        go_wp2_with fail
        case roundEnd =>
          refine ⟨⟨k + 1, r, x1, x2, x3, by omega, by push_cast; rfl, ⟨by rw [Htk.out, cnt_hit _ _ _ hj]; exact HR.out, by rw [Htk.out, cnt_miss _ _ _ (by omega)]; exact Hx.out.2.1, by rw [Htk.out, cnt_miss _ _ _ (by omega)]; exact Hx.out.2.2.1, by rw [Htk.out, cnt_miss _ _ _ (by omega)]; exact Hx.out.2.2.2⟩, Lib.hid ?_, ?_, Lib.hid ?_, Lib.hid ?_⟩, by simp only [intOf]; omega⟩
          · rw [heap_setCell_other _ _ _ _ (by simp)]; exact H2.out
          · exact Lib.hid (heap_setCell_same _ _ 0 _ _ (.float .f64 r) H3.out)
          · exact Hbel.out.setCell (p := ⟨w.heap.size + 2, 0, none⟩) (by show w.heap.size ≤ w.heap.size + 2; omega) _
          · exact gtrans HB.out (gset _ _ _ _)
      · have HX := Hx.out.2.1
        obtain ⟨r, hr, hR⟩ := IsI.add HX IsI.one (by omega)
        have hadd := fun W : World => run_float_arith (P := Tryd.prog) W .add 36 .f64 x1 4607182418800017408 r hr
        have HR := Lib.hid hR
        have hj : n % 4 = 1 := by omega
        clear hr hR HX
        rw [hn]
        go_wp2_with fail
        case roundEnd =>
          refine ⟨⟨k + 1, x0, r, x2, x3, by omega, by push_cast; rfl, ⟨by rw [Htk.out, cnt_miss _ _ _ (by omega)]; exact Hx.out.1, by rw [Htk.out, cnt_hit _ _ _ hj]; exact HR.out, by rw [Htk.out, cnt_miss _ _ _ (by omega)]; exact Hx.out.2.2.1, by rw [Htk.out, cnt_miss _ _ _ (by omega)]; exact Hx.out.2.2.2⟩, Lib.hid ?_, ?_, Lib.hid ?_, Lib.hid ?_⟩, by simp only [intOf]; omega⟩
          · rw [heap_setCell_other _ _ _ _ (by simp)]; exact H2.out
          · exact Lib.hid (heap_setCell_same _ _ 1 _ _ (.float .f64 r) H3.out)
          · exact Hbel.out.setCell (p := ⟨w.heap.size + 2, 1, none⟩) (by show w.heap.size ≤ w.heap.size + 2; omega) _
          · exact gtrans HB.out (gset _ _ _ _)
      · have HX := Hx.out.2.2.1
        obtain ⟨r, hr, hR⟩ := IsI.add HX IsI.one (by omega)
        have hadd := fun W : World => run_float_arith (P := Tryd.prog) W .add 36 .f64 x2 4607182418800017408 r hr
        have HR := Lib.hid hR
        have hj : n % 4 = 2 := by omega
        clear hr hR HX
        rw [hn]
        go_wp2_with fail
        case roundEnd =>
          refine ⟨⟨k + 1, x0, x1, r, x3, by omega, by push_cast; rfl, ⟨by rw [Htk.out, cnt_miss _ _ _ (by omega)]; exact Hx.out.1, by rw [Htk.out, cnt_miss _ _ _ (by omega)]; exact Hx.out.2.1, by rw [Htk.out, cnt_hit _ _ _ hj]; exact HR.out, by rw [Htk.out, cnt_miss _ _ _ (by omega)]; exact Hx.out.2.2.2⟩, Lib.hid ?_, ?_, Lib.hid ?_, Lib.hid ?_⟩, by simp only [intOf]; omega⟩
          · rw [heap_setCell_other _ _ _ _ (by simp)]; exact H2.out
          · exact Lib.hid (heap_setCell_same _ _ 2 _ _ (.float .f64 r) H3.out)
          · exact Hbel.out.setCell (p := ⟨w.heap.size + 2, 2, none⟩) (by show w.heap.size ≤ w.heap.size + 2; omega) _
          · exact gtrans HB.out (gset _ _ _ _)
      · have HX := Hx.out.2.2.2
        obtain ⟨r, hr, hR⟩ := IsI.add HX IsI.one (by omega)
        have hadd := fun W : World => run_float_arith (P := Tryd.prog) W .add 36 .f64 x3 4607182418800017408 r hr
        have HR := Lib.hid hR
        have hj : n % 4 = 3 := by omega
        clear hr hR HX
        rw [hn]
        go_wp2_with fail
        case roundEnd =>
          refine ⟨⟨k + 1, x0, x1, x2, r, by omega, by push_cast; rfl, ⟨by rw [Htk.out, cnt_miss _ _ _ (by omega)]; exact Hx.out.1, by rw [Htk.out, cnt_miss _ _ _ (by omega)]; exact Hx.out.2.1, by rw [Htk.out, cnt_miss _ _ _ (by omega)]; exact Hx.out.2.2.1, by rw [Htk.out, cnt_hit _ _ _ hj]; exact HR.out⟩, Lib.hid ?_, ?_, Lib.hid ?_, Lib.hid ?_⟩, by simp only [intOf]; omega⟩
          · rw [heap_setCell_other _ _ _ _ (by simp)]; exact H2.out
          · exact Lib.hid (heap_setCell_same _ _ 3 _ _ (.float .f64 r) H3.out)
          · exact Hbel.out.setCell (p := ⟨w.heap.size + 2, 3, none⟩) (by show w.heap.size ≤ w.heap.size + 2; omega) _
          · exact gtrans HB.out (gset _ _ _ _)
    · have hd0 : wr.cell? ⟨w.heap.size + 1, 0, none⟩ = some (.float .f64 0) := by rw [cell_of_row _ _ _ _ _ _ H2.out]; rfl
      have hd1 : wr.cell? ⟨w.heap.size + 1, 1, none⟩ = some (.float .f64 0) := by rw [cell_of_row _ _ _ _ _ _ H2.out]; rfl
      have hd2 : wr.cell? ⟨w.heap.size + 1, 2, none⟩ = some (.float .f64 0) := by rw [cell_of_row _ _ _ _ _ _ H2.out]; rfl
      have hd3 : wr.cell? ⟨w.heap.size + 1, 3, none⟩ = some (.float .f64 0) := by rw [cell_of_row _ _ _ _ _ _ H2.out]; rfl
      have hf0 : wr.frozen? ⟨w.heap.size + 1, 0, none⟩ = false := frozen_of_row _ _ _ _ _ H2.out
      have hf1 : wr.frozen? ⟨w.heap.size + 1, 1, none⟩ = false := frozen_of_row _ _ _ _ _ H2.out
      have hf2 : wr.frozen? ⟨w.heap.size + 1, 2, none⟩ = false := frozen_of_row _ _ _ _ _ H2.out
      have hf3 : wr.frozen? ⟨w.heap.size + 1, 3, none⟩ = false := frozen_of_row _ _ _ _ _ H2.out
      have e0 := heap_setCell_same wr (w.heap.size + 1) 0 _ _ (.float .f64 x0) H2.out
      have e1 := heap_setCell_same _ (w.heap.size + 1) 1 _ _ (.float .f64 x1) e0
      have e2 := heap_setCell_same _ (w.heap.size + 1) 2 _ _ (.float .f64 x2) e1
      have e3 := heap_setCell_same _ (w.heap.size + 1) 3 _ _ (.float .f64 x3) e2
      have E3 := Lib.hid e3
      clear e0 e1 e2 e3
      go_wp2
      try simp only [Exit.inBlock, Exit.then]
      have e : L.take k = L := List.take_of_length_le (by omega)
      have h := Hx.out
      rw [e, ← HL.out] at h
      have hb9 (i : Nat) : w.heap.size ≤ (⟨w.heap.size + 1, i, none⟩ : Addr).block := by show w.heap.size ≤ w.heap.size + 1; omega
      exact bodyPost_ret (results_cell_row rfl _ _ (w.heap.size + 1) _ _ _ _ rfl E3.out Tryd.underlying37 rfl (by kernel_rfl)) rfl ⟨x0, x1, x2, x3, rfl, h, (((Hbel.out.setCell (p := ⟨w.heap.size + 1, 0, none⟩) (hb9 0) _).setCell (p := ⟨w.heap.size + 1, 1, none⟩) (hb9 1) _).setCell (p := ⟨w.heap.size + 1, 2, none⟩) (hb9 2) _).setCell (p := ⟨w.heap.size + 1, 3, none⟩) (hb9 3) _⟩
end Go.Proofs.YtlfclpdcingpnaaDoor
