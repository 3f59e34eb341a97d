/- Sets as bytes, and back. -/
import Derived.Test.YtiolfnnkkflaiaaDoorBits6
import Derived.Test.YtiolfnnkkflaiaaDoorConv
import Derived.Test.YtiolfnnkkflaiaaDoorReader
import Derived.Test.YtiolfnnkkflaiaaDoorWordRef
import Derived.Test.YtiolfnnkkflaiaaDoorWordMath
open Go.RowKit
namespace Go.Proofs.YtiolfnnkkflaiaaDoor

/-! ### by bytes -/
def fromS (l : List UInt8) : Nat × Nat × Nat := if l.length = 16 then (beNum (l.take 8), beNum ((l.drop 8).take 8), 0) else (0, 0, 4)
theorem gErr8 (l : List UInt8) (k : Nat) (h : k + 8 ≤ l.length) : gErr l.length (k : Int) 8 = 0 := gErr_ok (by omega) (by omega)
theorem gNum8 (l : List UInt8) (k : Nat) (h : k + 8 ≤ l.length) : gNum l (k : Int) 8 = beNum ((l.drop k).take 8) := by rw [gNum_ok (gErr8 l k h), Int.toNat_natCast]; rfl
theorem rNum8 (l : List UInt8) (h : 8 ≤ l.length) : rNum l 0 8 = beNum (l.take 8) ∧ rNumE l 0 8 = 0 ∧ rNumL l 0 8 = l.drop 8 := by
  have e := gErr8 l 0 (by omega)
  have n := gNum8 l 0 (by omega)
  rw [List.drop_zero] at n
  refine ⟨?_, ?_, ?_⟩
  · unfold rNum; rw [if_pos rfl]; exact n
  · unfold rNumE; rw [if_pos rfl]; exact e
  · unfold rNumL; rw [if_pos ⟨rfl, e⟩]; rfl
theorem beNum_lt64 (l : List UInt8) (h : l.length ≤ 8) : beNum l < 18446744073709551616 := by
  have h1 := beNum_lt l
  have h2 : 256 ^ l.length ≤ 256 ^ 8 := Nat.pow_le_pow_right (by omega) h
  have : (256 : Nat) ^ 8 = 18446744073709551616 := by decide
  omega
theorem fromS_ok {l : List UInt8} (h : l.length = 16) : fromS l = (beNum (l.take 8), beNum ((l.drop 8).take 8), 0) := by unfold fromS; rw [if_pos h]
theorem fromS_no {l : List UInt8} (h : ¬ l.length = 16) : fromS l = (0, 0, 4) := by unfold fromS; rw [if_neg h]
theorem fromS_lt (l : List UInt8) : (fromS l).1 < 18446744073709551616 ∧ (fromS l).2.1 < 18446744073709551616 := by
  unfold fromS
  split
  · exact ⟨beNum_lt64 _ (by simp; omega), beNum_lt64 _ (by simp; omega)⟩
  · exact ⟨by show 0 < _; omega, by show 0 < _; omega⟩

theorem IsR.farSet {w : World} {g h : Nat} {l : List UInt8} {e : Nat} {x y : Int} {t : TypeId} (hR : IsR w g l e) (hh : w.heap[h]? = some (.cells #[.int .u64 x, .int .u64 y] t (0, 0))) (hne : h ≠ g) (i : Nat) (v : Value) : IsR (w.setCell ⟨h, i, none⟩ v) g l e := by
  obtain ⟨A, c, h1, h2, h3, h4⟩ := hR
  exact ⟨A, c, (heap_setCell_other w ⟨h, i, none⟩ g v (fun e => hne e.symm)).trans h1, h2.far hh (by simp) i v, h3, h4⟩

set_option maxHeartbeats 1000000 in
set_option maxRecDepth 100000 in
theorem bitsFrom_ok (s : ByteArray) (h16 : s.size = 16) (w : World) :
    Calls Tryd.prog 23 #[.string s] w fun e w' => e = .returned (.tuple #[.agg #[.int .u64 (beNum ((bl s).take 8) : Nat), .int .u64 (beNum (((bl s).drop 8).take 8) : Nat)], .int .i64 0]) ∧ Below w.heap.size w w' := by
  obtain ⟨hb1, hg1, hg2, hs1⟩ := alloc2 w #[.int .u64 0, .int .u64 0] 26 #[.int .u64 0, .int .u64 0] 26
  have hz : ((s.size : Int) != 16) = false := by rw [h16]; rfl
  have Hl := Lib.hid (show (bl s).length = 16 from h16)
  clear h16
  go_enter Tryd.func23, Tryd.ntmps23
  go_wp2_with (refine wpList_bytes_of rfl (.tmp 11) rfl s rfl ?_)
  intro A1 c1 w2 hr hc hb2
  clear hz
  have hs2 := hb2.size
  have G1 := Lib.hid ((hb2.block w.heap.size (by omega)).trans hg1)
  have G2 := Lib.hid ((hb2.block (w.heap.size + 1) (by omega)).trans hg2)
  have HR2 := Lib.hid (hb1.trans (hb2.mono (B' := w.heap.size) (by omega)))
  have Hs2 := Lib.hid (show w.heap.size + 2 ≤ w2.heap.size by omega)
  clear hb1 hg1 hg2 hs1 hb2 hs2 hc
  go_wp2_with fail
  refine (new_any A1 (bl s) c1 w2 hr (by have := Hl.out; omega)).mono ?_
  rintro e w3 ⟨g, rfl, hR, hg, hb3⟩
  have hs2 := Hs2.out
  have G1 := Lib.hid ((hb3.block w.heap.size (by omega)).trans G1.out)
  have G2 := Lib.hid ((hb3.block (w.heap.size + 1) (by omega)).trans G2.out)
  have HR3 := Lib.hid (HR2.out.trans (hb3.mono (B' := w.heap.size) HR2.out.size))
  have Hs3 := Lib.hid (show w.heap.size + 2 ≤ g from Nat.le_trans hs2 hg)
  have HI := Lib.hid hR
  clear hr hb3 hs2 hg hR HR2 Hs2
  go_wp2_with fail
  refine wp_loop_rounds 3 ?_
  rw [rounds_succ]
  go_wp2_with fail
  obtain ⟨r1, r2, r3⟩ := rNum8 (bl s) (by rw [Hl.out]; omega)
  refine (num_any g (bl s) 0 8 w3 HI.out).mono ?_
  rintro e w4 ⟨rfl, hI4, hb4⟩
  rw [r1]
  rw [r2, r3] at hI4
  have hlt := HI.out.lt
  have HR4 := Lib.hid (HR3.out.grown hb4 HR3.out.size (fun k hk => by injection hk with hk; have := Hs3.out; omega))
  have G1 := Lib.hid ((hb4.block w.heap.size (by have := Hs3.out; omega) (by have := Hs3.out; simp; omega)).trans G1.out)
  have g2 := (hb4.block (w.heap.size + 1) (by have := Hs3.out; omega) (by have := Hs3.out; simp; omega)).trans G2.out
  obtain ⟨c0, _, f0, _⟩ := cells2 g2
  have G2 := Lib.hid (heap_setCell_same w4 (w.heap.size + 1) 0 _ _ (.int .u64 (beNum ((bl s).take 8) : Nat)) g2)
  have G1 := Lib.hid ((heap_setCell_other w4 ⟨w.heap.size + 1, 0, none⟩ w.heap.size (.int .u64 (beNum ((bl s).take 8) : Nat)) (by simp)).trans G1.out)
  have HR5 := Lib.hid (HR4.out.setCell (p := ⟨w.heap.size + 1, 0, none⟩) (show w.heap.size ≤ w.heap.size + 1 by omega) (.int .u64 (beNum ((bl s).take 8) : Nat)))
  have HI := Lib.hid (hI4.farSet g2 (by have := Hs3.out; omega) 0 (.int .u64 (beNum ((bl s).take 8) : Nat)))
  have Hs5 := Lib.hid (show w.heap.size + 2 ≤ (w4.setCell ⟨w.heap.size + 1, 0, none⟩ (.int .u64 (beNum ((bl s).take 8) : Nat))).heap.size by rw [size_set]; have := hb4.size; have := Hs3.out; omega)
  clear r1 r2 r3 hI4 hb4 hlt g2 HR3 HR4
  go_wp2_with fail
  generalize w4.setCell ⟨w.heap.size + 1, 0, none⟩ (.int .u64 (beNum ((bl s).take 8) : Nat)) = w5 at G1 G2 HR5 HI Hs5 ⊢
  clear c0 f0
  rw [rounds_succ]
  go_wp2_with fail
  obtain ⟨r1, r2, r3⟩ := rNum8 ((bl s).drop 8) (by rw [List.length_drop, Hl.out]; omega)
  refine (num_any g ((bl s).drop 8) 0 8 w5 HI.out).mono ?_
  rintro e w6 ⟨rfl, hI6, hb6⟩
  rw [r1]
  have hs5 := Hs5.out
  have HR6 := Lib.hid (HR5.out.grown hb6 HR5.out.size (fun k hk => by injection hk with hk; have := Hs3.out; omega))
  have g1 := (hb6.block w.heap.size (by omega) (by have := Hs3.out; simp; omega)).trans G1.out
  have g2 := (hb6.block (w.heap.size + 1) (by omega) (by have := Hs3.out; simp; omega)).trans G2.out
  obtain ⟨_, c1, _, f1⟩ := cells2 g2
  have G2 := Lib.hid (heap_setCell_same w6 (w.heap.size + 1) 1 _ _ (.int .u64 (beNum (((bl s).drop 8).take 8) : Nat)) g2)
  have G1 := Lib.hid ((heap_setCell_other w6 ⟨w.heap.size + 1, 1, none⟩ w.heap.size (.int .u64 (beNum (((bl s).drop 8).take 8) : Nat)) (by simp)).trans g1)
  have HR7 := Lib.hid (HR6.out.setCell (p := ⟨w.heap.size + 1, 1, none⟩) (show w.heap.size ≤ w.heap.size + 1 by omega) (.int .u64 (beNum (((bl s).drop 8).take 8) : Nat)))
  clear r1 r2 r3 hI6 hb6 g1 g2 HR5 HR6 hs5
  go_wp2_with fail
  generalize w6.setCell ⟨w.heap.size + 1, 1, none⟩ (.int .u64 (beNum (((bl s).drop 8).take 8) : Nat)) = w7 at G1 G2 HR7 ⊢
  clear c1 f1
  rw [rounds_succ]
  obtain ⟨c0, c1, _, _⟩ := cells2 G2.out
  obtain ⟨_, _, f0, f1⟩ := cells2 G1.out
  obtain ⟨d0, d1, _, _⟩ := cells2 G1.out
  have E := Lib.hid (set2 G1.out (.int .u64 (beNum ((bl s).take 8) : Nat)) (.int .u64 (beNum (((bl s).drop 8).take 8) : Nat)))
  go_wp2_with fail
  try simp only [Exit.inBlock, Exit.then]
  exact bodyPost_ret (results_cell_tmp_row rfl _ _ w.heap.size _ _ _ _ rfl E.out Tryd.underlying26 rfl (by kernel_rfl)) rfl ⟨rfl, below_set2 HR7.out (Nat.le_refl _) _ _⟩
theorem bitsFrom_any (s : ByteArray) (w : World) :
    Calls Tryd.prog 23 #[.string s] w fun e w' => e = .returned (.tuple #[.agg #[.int .u64 ((fromS (bl s)).1 : Nat), .int .u64 ((fromS (bl s)).2.1 : Nat)], .int .i64 ((fromS (bl s)).2.2 : Nat)]) ∧ Below w.heap.size w w' := by
  by_cases h : s.size = 16
  · rw [fromS_ok (l := bl s) h]
    exact bitsFrom_ok s h w
  · rw [fromS_no (l := bl s) h]
    obtain ⟨hb1, hg1, hs1⟩ := alloc1 w #[.int .u64 0, .int .u64 0] 26
    have hz : ((s.size : Int) != 16) = true := by rw [bne_iff_ne]; omega
    clear h
    go_enter Tryd.func23, Tryd.ntmps23
    go_wp2_with fail
    try simp only [Exit.inBlock, Exit.then]
    exact bodyPost_ret (results_cell_tmp_row rfl _ _ w.heap.size _ _ _ _ rfl hg1 Tryd.underlying26 rfl (by kernel_rfl)) rfl ⟨rfl, hb1⟩

set_option maxHeartbeats 1000000 in
set_option maxRecDepth 100000 in
theorem refFrom_any (s : ByteArray) (hm : s.size ≤ 140737488351232) (w : World) :
    Calls Tryd.prog 24 #[.string s] w fun e w' => e = .returned (.tuple #[.agg #[.int .u64 ((fromS (bl s)).1 : Nat), .int .u64 ((fromS (bl s)).2.1 : Nat)], .int .i64 ((fromS (bl s)).2.2 : Nat)]) ∧ Below w.heap.size w w' := by
  obtain ⟨hb1, hg1, hs1⟩ := alloc1 w #[.int .u64 0, .int .u64 0] 30
  by_cases h : s.size = 16
  · rw [fromS_ok (l := bl s) h]
    have hz : ((s.size : Int) != 16) = false := by rw [h]; rfl
    have Hl := Lib.hid (show (bl s).length = 16 from h)
    clear h hm
    go_enter Tryd.func24, Tryd.ntmps24
    go_wp2_with (refine wpList_bytes_of rfl (.tmp 13) rfl s rfl ?_)
    intro A1 c1 w2 hr hc hb2
    clear hz
    have G1 := Lib.hid ((hb2.block w.heap.size (by omega)).trans hg1)
    have HR2 := Lib.hid (hb1.trans (hb2.mono (B' := w.heap.size) (by omega)))
    have Hs2 := Lib.hid (show w.heap.size + 1 ≤ w2.heap.size by have := hb2.size; omega)
    clear hb1 hg1 hs1 hb2 hc
    go_wp2_with fail
    refine (refGet_any A1 (bl s) c1 0 8 w2 hr (by rw [Hl.out]; unfold maxLen; omega)).mono ?_
    rintro e w3 ⟨rfl, rfl⟩
    have n0 := gNum8 (bl s) 0 (by rw [Hl.out]; omega)
    rw [List.drop_zero] at n0
    rw [show gNum (bl s) 0 8 = _ from n0, show gErr (bl s).length 0 8 = 0 from gErr8 (bl s) 0 (by rw [Hl.out]; omega)]
    clear n0
    go_wp2_with (refine wpList_bytes_of rfl (.tmp 19) rfl s rfl ?_)
    intro A2 c2 w3 hr3 hc3 hb3
    have G1 := Lib.hid ((hb3.block w.heap.size (by have := Hs2.out; omega)).trans G1.out)
    have HR3 := Lib.hid (HR2.out.trans (hb3.mono (B' := w.heap.size) HR2.out.size))
    clear hr hb3 hc3 HR2 Hs2
    go_wp2_with fail
    refine (refGet_any A2 (bl s) c2 8 8 w3 hr3 (by rw [Hl.out]; unfold maxLen; omega)).mono ?_
    rintro e w4 ⟨rfl, rfl⟩
    rw [show gNum (bl s) 8 8 = _ from gNum8 (bl s) 8 (by rw [Hl.out]; omega), show gErr (bl s).length 8 8 = 0 from gErr8 (bl s) 8 (by rw [Hl.out]; omega)]
    obtain ⟨c0, c1, f0, f1⟩ := cells2 G1.out
    have E := Lib.hid (set2 G1.out (.int .u64 (beNum ((bl s).take 8) : Nat)) (.int .u64 (beNum (((bl s).drop 8).take 8) : Nat)))
    clear hr3
    go_wp2_with fail
    try simp only [Exit.inBlock, Exit.then]
    exact bodyPost_ret (results_cell_tmp_row rfl _ _ w.heap.size _ _ _ _ rfl E.out Tryd.underlying30 rfl (by kernel_rfl)) rfl ⟨rfl, below_set2 HR3.out (Nat.le_refl _) _ _⟩
  · rw [fromS_no (l := bl s) h]
    have hz : ((s.size : Int) != 16) = true := by rw [bne_iff_ne]; omega
    clear h hm
    go_enter Tryd.func24, Tryd.ntmps24
    go_wp2_with fail
    try simp only [Exit.inBlock, Exit.then]
    exact bodyPost_ret (results_cell_tmp_row rfl _ _ w.heap.size _ _ _ _ rfl hg1 Tryd.underlying30 rfl (by kernel_rfl)) rfl ⟨rfl, hb1⟩
end Go.Proofs.YtiolfnnkkflaiaaDoor
