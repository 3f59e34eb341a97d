/- The reference's frames: what is told; whether two are alike. -/
import Derived.Test.YtcahflddafdhfaaFr3
import Derived.Test.YtcahflddafdhfaaTexts
open Go.RowKit
namespace Go.Proofs.Ytcahflddafdhfaa
set_option maxHeartbeats 2000000 in
set_option maxRecDepth 100000 in
theorem refTold_any (w : World) (x : Fr) (A : Option Addr) (c : Nat) (h17 : x.k = 1 ∨ x.k = 2 ∨ x.k = 3 ∨ x.k = 4 ∨ x.k = 5 ∨ x.k = 6 ∨ x.k = 7) :
    Calls Try.prog 45 #[.agg (x.cells A c)] w fun e w' => e = .returned (.agg ((told x).cells (tA x A) (tC x c))) ∧ Below w.heap.size w w' := by
  obtain ⟨k, s, e, q, v, n, f, i, cd, d, l⟩ := x
  simp only at h17
  rcases h17 with rfl | rfl | rfl | rfl | rfl | rfl | rfl
  · rw [show (told ⟨1, s, e, q, v, n, f, i, cd, d, l⟩).cells (tA ⟨1, s, e, q, v, n, f, i, cd, d, l⟩ A) (tC ⟨1, s, e, q, v, n, f, i, cd, d, l⟩ c) = #[.int .i64 1, .int .u64 (s : Int), .int .u64 (e : Int), .int .u32 (q : Int), .int .u32 (v : Int), .int .i64 n, .int .i64 f, .int .i64 0, .int .i64 0, .string d, .slice none 0 0] from rfl]
    unfold Fr.cells
    simp only
    go_enter Try.func45, Try.ntmps45
    go_wp2_with fail
    obtain ⟨hb, _, hg, _⟩ := alloc3 w #[.int .i64 1, .int .u64 (s : Int), .int .u64 (e : Int), .int .u32 (q : Int), .int .u32 (v : Int), .int .i64 n, .int .i64 f, .int .i64 i, .int .i64 cd, .string d, .slice A l.length c] 41 #[.int .i64 1, .int .u64 (s : Int), .int .u64 (e : Int), .int .u32 (q : Int), .int .u32 (v : Int), .int .i64 n, .int .i64 f, .int .i64 0, .int .i64 0, .string d, .slice none 0 0] 41 #[.int .i64 1, .int .u64 (s : Int), .int .u64 (e : Int), .int .u32 (q : Int), .int .u32 (v : Int), .int .i64 n, .int .i64 f, .int .i64 0, .int .i64 0, .string d, .slice none 0 0] 41
    exact bodyPost_ret (results_cell_row rfl _ _ (w.heap.size + 1) _ _ _ _ rfl hg Try.underlying41 rfl (by kernel_rfl)) rfl ⟨rfl, hb⟩
  · rw [show (told ⟨2, s, e, q, v, n, f, i, cd, d, l⟩).cells (tA ⟨2, s, e, q, v, n, f, i, cd, d, l⟩ A) (tC ⟨2, s, e, q, v, n, f, i, cd, d, l⟩ c) = #[.int .i64 2, .int .u64 (s : Int), .int .u64 (e : Int), .int .u32 (q : Int), .int .u32 0, .int .i64 0, .int .i64 0, .int .i64 0, .int .i64 cd, .string ⟨#[]⟩, .slice none 0 0] from rfl]
    unfold Fr.cells
    simp only
    go_enter Try.func45, Try.ntmps45
    go_wp2_with fail
    obtain ⟨hb, _, hg, _⟩ := alloc3 w #[.int .i64 2, .int .u64 (s : Int), .int .u64 (e : Int), .int .u32 (q : Int), .int .u32 (v : Int), .int .i64 n, .int .i64 f, .int .i64 i, .int .i64 cd, .string d, .slice A l.length c] 41 #[.int .i64 2, .int .u64 (s : Int), .int .u64 (e : Int), .int .u32 (q : Int), .int .u32 0, .int .i64 0, .int .i64 0, .int .i64 0, .int .i64 cd, .string ⟨#[]⟩, .slice none 0 0] 41 #[.int .i64 2, .int .u64 (s : Int), .int .u64 (e : Int), .int .u32 (q : Int), .int .u32 0, .int .i64 0, .int .i64 0, .int .i64 0, .int .i64 cd, .string ⟨#[]⟩, .slice none 0 0] 41
    exact bodyPost_ret (results_cell_row rfl _ _ (w.heap.size + 1) _ _ _ _ rfl hg Try.underlying41 rfl (by kernel_rfl)) rfl ⟨rfl, hb⟩
  · rw [show (told ⟨3, s, e, q, v, n, f, i, cd, d, l⟩).cells (tA ⟨3, s, e, q, v, n, f, i, cd, d, l⟩ A) (tC ⟨3, s, e, q, v, n, f, i, cd, d, l⟩ c) = #[.int .i64 3, .int .u64 (s : Int), .int .u64 (e : Int), .int .u32 (q : Int), .int .u32 0, .int .i64 0, .int .i64 0, .int .i64 i, .int .i64 0, .string ⟨#[]⟩, .slice none 0 0] from rfl]
    unfold Fr.cells
    simp only
    go_enter Try.func45, Try.ntmps45
    go_wp2_with fail
    obtain ⟨hb, _, hg, _⟩ := alloc3 w #[.int .i64 3, .int .u64 (s : Int), .int .u64 (e : Int), .int .u32 (q : Int), .int .u32 (v : Int), .int .i64 n, .int .i64 f, .int .i64 i, .int .i64 cd, .string d, .slice A l.length c] 41 #[.int .i64 3, .int .u64 (s : Int), .int .u64 (e : Int), .int .u32 (q : Int), .int .u32 0, .int .i64 0, .int .i64 0, .int .i64 i, .int .i64 0, .string ⟨#[]⟩, .slice none 0 0] 41 #[.int .i64 3, .int .u64 (s : Int), .int .u64 (e : Int), .int .u32 (q : Int), .int .u32 0, .int .i64 0, .int .i64 0, .int .i64 i, .int .i64 0, .string ⟨#[]⟩, .slice none 0 0] 41
    exact bodyPost_ret (results_cell_row rfl _ _ (w.heap.size + 1) _ _ _ _ rfl hg Try.underlying41 rfl (by kernel_rfl)) rfl ⟨rfl, hb⟩
  · rw [show (told ⟨4, s, e, q, v, n, f, i, cd, d, l⟩).cells (tA ⟨4, s, e, q, v, n, f, i, cd, d, l⟩ A) (tC ⟨4, s, e, q, v, n, f, i, cd, d, l⟩ c) = #[.int .i64 4, .int .u64 (s : Int), .int .u64 (e : Int), .int .u32 (q : Int), .int .u32 0, .int .i64 0, .int .i64 0, .int .i64 i, .int .i64 0, .string ⟨#[]⟩, .slice A l.length c] from rfl]
    unfold Fr.cells
    simp only
    go_enter Try.func45, Try.ntmps45
    go_wp2_with fail
    obtain ⟨hb, _, hg, _⟩ := alloc3 w #[.int .i64 4, .int .u64 (s : Int), .int .u64 (e : Int), .int .u32 (q : Int), .int .u32 (v : Int), .int .i64 n, .int .i64 f, .int .i64 i, .int .i64 cd, .string d, .slice A l.length c] 41 #[.int .i64 4, .int .u64 (s : Int), .int .u64 (e : Int), .int .u32 (q : Int), .int .u32 0, .int .i64 0, .int .i64 0, .int .i64 i, .int .i64 0, .string ⟨#[]⟩, .slice A l.length c] 41 #[.int .i64 4, .int .u64 (s : Int), .int .u64 (e : Int), .int .u32 (q : Int), .int .u32 0, .int .i64 0, .int .i64 0, .int .i64 i, .int .i64 0, .string ⟨#[]⟩, .slice A l.length c] 41
    exact bodyPost_ret (results_cell_row rfl _ _ (w.heap.size + 1) _ _ _ _ rfl hg Try.underlying41 rfl (by kernel_rfl)) rfl ⟨rfl, hb⟩
  · rw [show (told ⟨5, s, e, q, v, n, f, i, cd, d, l⟩).cells (tA ⟨5, s, e, q, v, n, f, i, cd, d, l⟩ A) (tC ⟨5, s, e, q, v, n, f, i, cd, d, l⟩ c) = #[.int .i64 5, .int .u64 (s : Int), .int .u64 (e : Int), .int .u32 (q : Int), .int .u32 0, .int .i64 0, .int .i64 0, .int .i64 i, .int .i64 0, .string ⟨#[]⟩, .slice none 0 0] from rfl]
    unfold Fr.cells
    simp only
    go_enter Try.func45, Try.ntmps45
    go_wp2_with fail
    obtain ⟨hb, _, hg, _⟩ := alloc3 w #[.int .i64 5, .int .u64 (s : Int), .int .u64 (e : Int), .int .u32 (q : Int), .int .u32 (v : Int), .int .i64 n, .int .i64 f, .int .i64 i, .int .i64 cd, .string d, .slice A l.length c] 41 #[.int .i64 5, .int .u64 (s : Int), .int .u64 (e : Int), .int .u32 (q : Int), .int .u32 0, .int .i64 0, .int .i64 0, .int .i64 i, .int .i64 0, .string ⟨#[]⟩, .slice none 0 0] 41 #[.int .i64 5, .int .u64 (s : Int), .int .u64 (e : Int), .int .u32 (q : Int), .int .u32 0, .int .i64 0, .int .i64 0, .int .i64 i, .int .i64 0, .string ⟨#[]⟩, .slice none 0 0] 41
    exact bodyPost_ret (results_cell_row rfl _ _ (w.heap.size + 1) _ _ _ _ rfl hg Try.underlying41 rfl (by kernel_rfl)) rfl ⟨rfl, hb⟩
  · rw [show (told ⟨6, s, e, q, v, n, f, i, cd, d, l⟩).cells (tA ⟨6, s, e, q, v, n, f, i, cd, d, l⟩ A) (tC ⟨6, s, e, q, v, n, f, i, cd, d, l⟩ c) = #[.int .i64 6, .int .u64 (s : Int), .int .u64 (e : Int), .int .u32 (q : Int), .int .u32 0, .int .i64 0, .int .i64 0, .int .i64 i, .int .i64 0, .string d, .slice none 0 0] from rfl]
    unfold Fr.cells
    simp only
    go_enter Try.func45, Try.ntmps45
    go_wp2_with fail
    obtain ⟨hb, _, hg, _⟩ := alloc3 w #[.int .i64 6, .int .u64 (s : Int), .int .u64 (e : Int), .int .u32 (q : Int), .int .u32 (v : Int), .int .i64 n, .int .i64 f, .int .i64 i, .int .i64 cd, .string d, .slice A l.length c] 41 #[.int .i64 6, .int .u64 (s : Int), .int .u64 (e : Int), .int .u32 (q : Int), .int .u32 0, .int .i64 0, .int .i64 0, .int .i64 i, .int .i64 0, .string d, .slice none 0 0] 41 #[.int .i64 6, .int .u64 (s : Int), .int .u64 (e : Int), .int .u32 (q : Int), .int .u32 0, .int .i64 0, .int .i64 0, .int .i64 i, .int .i64 0, .string d, .slice none 0 0] 41
    exact bodyPost_ret (results_cell_row rfl _ _ (w.heap.size + 1) _ _ _ _ rfl hg Try.underlying41 rfl (by kernel_rfl)) rfl ⟨rfl, hb⟩
  · rw [show (told ⟨7, s, e, q, v, n, f, i, cd, d, l⟩).cells (tA ⟨7, s, e, q, v, n, f, i, cd, d, l⟩ A) (tC ⟨7, s, e, q, v, n, f, i, cd, d, l⟩ c) = #[.int .i64 7, .int .u64 (s : Int), .int .u64 (e : Int), .int .u32 (q : Int), .int .u32 0, .int .i64 0, .int .i64 0, .int .i64 0, .int .i64 0, .string ⟨#[]⟩, .slice none 0 0] from rfl]
    unfold Fr.cells
    simp only
    go_enter Try.func45, Try.ntmps45
    go_wp2_with fail
    obtain ⟨hb, _, hg, _⟩ := alloc3 w #[.int .i64 7, .int .u64 (s : Int), .int .u64 (e : Int), .int .u32 (q : Int), .int .u32 (v : Int), .int .i64 n, .int .i64 f, .int .i64 i, .int .i64 cd, .string d, .slice A l.length c] 41 #[.int .i64 7, .int .u64 (s : Int), .int .u64 (e : Int), .int .u32 (q : Int), .int .u32 0, .int .i64 0, .int .i64 0, .int .i64 0, .int .i64 0, .string ⟨#[]⟩, .slice none 0 0] 41 #[.int .i64 7, .int .u64 (s : Int), .int .u64 (e : Int), .int .u32 (q : Int), .int .u32 0, .int .i64 0, .int .i64 0, .int .i64 0, .int .i64 0, .string ⟨#[]⟩, .slice none 0 0] 41
    exact bodyPost_ret (results_cell_row rfl _ _ (w.heap.size + 1) _ _ _ _ rfl hg Try.underlying41 rfl (by kernel_rfl)) rfl ⟨rfl, hb⟩
theorem alikeB_no {x y : Fr} (h : x ≠ y) : alikeB x y = false := by
  rw [Bool.eq_false_iff]
  exact fun e => h ((alikeB_iff x y).1 e)
theorem alikeB_yes (x : Fr) : alikeB x x = true := (alikeB_iff x x).2 rfl
set_option maxHeartbeats 4000000 in
set_option maxRecDepth 100000 in
theorem refAlike_any (x y : Fr) (A B : Option Addr) (c d : Nat) (w : World) (hr : Reads w 1 A x.l.length (sts x.l)) (hs : Reads w 1 B y.l.length (sts y.l)) (hl : x.l.length ≤ 2000000) :
    Calls Try.prog 23 #[.agg (x.cells A c), .agg (y.cells B d)] w fun e w' => e = .returned (.bool (alikeB x y)) ∧ Below w.heap.size w w' := by
  obtain ⟨k, s, e, q, v, n, f, i, cd, dd, l⟩ := x
  obtain ⟨k2, s2, e2, q2, v2, n2, f2, i2, cd2, dd2, l2⟩ := y
  obtain ⟨hb, hg1, hg2, _⟩ := alloc2 w (Fr.cells ⟨k, s, e, q, v, n, f, i, cd, dd, l⟩ A c) 41 (Fr.cells ⟨k2, s2, e2, q2, v2, n2, f2, i2, cd2, dd2, l2⟩ B d) 41
  have Hr := Lib.hid (hr.below hb)
  have Hs := Lib.hid (hs.below hb)
  have HBl := Lib.hid hb
  have HL := Lib.hid hl
  unfold Fr.cells at hb Hr Hs HBl ⊢
  clear hr hs hb hl hg1 hg2
  simp only at Hr Hs HL HBl ⊢
  by_cases h0 : k = k2
  rotate_left
  · have HD := Lib.hid (alikeB_no (x := ⟨k, s, e, q, v, n, f, i, cd, dd, l⟩) (y := ⟨k2, s2, e2, q2, v2, n2, f2, i2, cd2, dd2, l2⟩) (fun e => h0 (by injection e)))
    have hb0 : (k == k2) = false := by rw [beq_eq_false_iff_ne]; exact h0
    clear h0
    go_enter Try.func23, Try.ntmps23
    go_wp2_with fail
    go_ret
    exact ⟨by rw [HD.out]; rfl, HBl.out⟩
  have hb0 : (k == k2) = true := by rw [h0]; exact beq_self_eq_true _
  have HE0 := Lib.hid h0
  clear h0
  by_cases h1 : s = s2
  rotate_left
  · have HD := Lib.hid (alikeB_no (x := ⟨k, s, e, q, v, n, f, i, cd, dd, l⟩) (y := ⟨k2, s2, e2, q2, v2, n2, f2, i2, cd2, dd2, l2⟩) (fun e => h1 (by injection e)))
    have hb1 : ((s : Int) == (s2 : Int)) = false := by rw [beq_eq_false_iff_ne]; omega
    clear h1
    go_enter Try.func23, Try.ntmps23
    go_wp2_with fail
    go_ret
    exact ⟨by rw [HD.out]; rfl, HBl.out⟩
  have hb1 : ((s : Int) == (s2 : Int)) = true := by rw [h1]; exact beq_self_eq_true _
  have HE1 := Lib.hid h1
  clear h1
  by_cases h2 : e = e2
  rotate_left
  · have HD := Lib.hid (alikeB_no (x := ⟨k, s, e, q, v, n, f, i, cd, dd, l⟩) (y := ⟨k2, s2, e2, q2, v2, n2, f2, i2, cd2, dd2, l2⟩) (fun e => h2 (by injection e)))
    have hb2 : ((e : Int) == (e2 : Int)) = false := by rw [beq_eq_false_iff_ne]; omega
    clear h2
    go_enter Try.func23, Try.ntmps23
    go_wp2_with fail
    go_ret
    exact ⟨by rw [HD.out]; rfl, HBl.out⟩
  have hb2 : ((e : Int) == (e2 : Int)) = true := by rw [h2]; exact beq_self_eq_true _
  have HE2 := Lib.hid h2
  clear h2
  by_cases h3 : q = q2
  rotate_left
  · have HD := Lib.hid (alikeB_no (x := ⟨k, s, e, q, v, n, f, i, cd, dd, l⟩) (y := ⟨k2, s2, e2, q2, v2, n2, f2, i2, cd2, dd2, l2⟩) (fun e => h3 (by injection e)))
    have hb3 : ((q : Int) == (q2 : Int)) = false := by rw [beq_eq_false_iff_ne]; omega
    clear h3
    go_enter Try.func23, Try.ntmps23
    go_wp2_with fail
    go_ret
    exact ⟨by rw [HD.out]; rfl, HBl.out⟩
  have hb3 : ((q : Int) == (q2 : Int)) = true := by rw [h3]; exact beq_self_eq_true _
  have HE3 := Lib.hid h3
  clear h3
  by_cases h4 : v = v2
  rotate_left
  · have HD := Lib.hid (alikeB_no (x := ⟨k, s, e, q, v, n, f, i, cd, dd, l⟩) (y := ⟨k2, s2, e2, q2, v2, n2, f2, i2, cd2, dd2, l2⟩) (fun e => h4 (by injection e)))
    have hb4 : ((v : Int) == (v2 : Int)) = false := by rw [beq_eq_false_iff_ne]; omega
    clear h4
    go_enter Try.func23, Try.ntmps23
    go_wp2_with fail
    go_ret
    exact ⟨by rw [HD.out]; rfl, HBl.out⟩
  have hb4 : ((v : Int) == (v2 : Int)) = true := by rw [h4]; exact beq_self_eq_true _
  have HE4 := Lib.hid h4
  clear h4
  by_cases h5 : n = n2
  rotate_left
  · have HD := Lib.hid (alikeB_no (x := ⟨k, s, e, q, v, n, f, i, cd, dd, l⟩) (y := ⟨k2, s2, e2, q2, v2, n2, f2, i2, cd2, dd2, l2⟩) (fun e => h5 (by injection e)))
    have hb5 : (n == n2) = false := by rw [beq_eq_false_iff_ne]; exact h5
    clear h5
    go_enter Try.func23, Try.ntmps23
    go_wp2_with fail
    go_ret
    exact ⟨by rw [HD.out]; rfl, HBl.out⟩
  have hb5 : (n == n2) = true := by rw [h5]; exact beq_self_eq_true _
  have HE5 := Lib.hid h5
  clear h5
  by_cases h6 : f = f2
  rotate_left
  · have HD := Lib.hid (alikeB_no (x := ⟨k, s, e, q, v, n, f, i, cd, dd, l⟩) (y := ⟨k2, s2, e2, q2, v2, n2, f2, i2, cd2, dd2, l2⟩) (fun e => h6 (by injection e)))
    have hb6 : (f == f2) = false := by rw [beq_eq_false_iff_ne]; exact h6
    clear h6
    go_enter Try.func23, Try.ntmps23
    go_wp2_with fail
    go_ret
    exact ⟨by rw [HD.out]; rfl, HBl.out⟩
  have hb6 : (f == f2) = true := by rw [h6]; exact beq_self_eq_true _
  have HE6 := Lib.hid h6
  clear h6
  by_cases h7 : i = i2
  rotate_left
  · have HD := Lib.hid (alikeB_no (x := ⟨k, s, e, q, v, n, f, i, cd, dd, l⟩) (y := ⟨k2, s2, e2, q2, v2, n2, f2, i2, cd2, dd2, l2⟩) (fun e => h7 (by injection e)))
    have hb7 : (i == i2) = false := by rw [beq_eq_false_iff_ne]; exact h7
    clear h7
    go_enter Try.func23, Try.ntmps23
    go_wp2_with fail
    go_ret
    exact ⟨by rw [HD.out]; rfl, HBl.out⟩
  have hb7 : (i == i2) = true := by rw [h7]; exact beq_self_eq_true _
  have HE7 := Lib.hid h7
  clear h7
  by_cases h8 : cd = cd2
  rotate_left
  · have HD := Lib.hid (alikeB_no (x := ⟨k, s, e, q, v, n, f, i, cd, dd, l⟩) (y := ⟨k2, s2, e2, q2, v2, n2, f2, i2, cd2, dd2, l2⟩) (fun e => h8 (by injection e)))
    have hb8 : (cd == cd2) = false := by rw [beq_eq_false_iff_ne]; exact h8
    clear h8
    go_enter Try.func23, Try.ntmps23
    go_wp2_with fail
    go_ret
    exact ⟨by rw [HD.out]; rfl, HBl.out⟩
  have hb8 : (cd == cd2) = true := by rw [h8]; exact beq_self_eq_true _
  have HE8 := Lib.hid h8
  clear h8
  by_cases h9 : dd = dd2
  rotate_left
  · have HD := Lib.hid (alikeB_no (x := ⟨k, s, e, q, v, n, f, i, cd, dd, l⟩) (y := ⟨k2, s2, e2, q2, v2, n2, f2, i2, cd2, dd2, l2⟩) (fun e => h9 (by injection e)))
    have hb9 : (dd.toList == dd2.toList) = false := by rw [beq_eq_false_iff_ne]; exact fun e => h9 (toList_inj e)
    clear h9
    go_enter Try.func23, Try.ntmps23
    go_wp2_with fail
    go_ret
    exact ⟨by rw [HD.out]; rfl, HBl.out⟩
  have hb9 : (dd.toList == dd2.toList) = true := by rw [h9]; exact beq_self_eq_true _
  have HE9 := Lib.hid h9
  clear h9
  go_enter Try.func23, Try.ntmps23
  go_wp2_with fail
  refine (texts12_any A B l l2 c d _ Hr.out Hs.out HL.out).mono ?_
  rintro e w1 ⟨rfl, hb2⟩
  have HB2 := Lib.hid (HBl.out.trans (hb2.mono HBl.out.size))
  clear hb2
  go_wp2_with fail
  go_ret
  refine ⟨?_, HB2.out⟩
  obtain ⟨e0, e1, e2, e3, e4, e5, e6, e7, e8, e9⟩ := And.intro HE0.out (And.intro HE1.out (And.intro HE2.out (And.intro HE3.out (And.intro HE4.out (And.intro HE5.out (And.intro HE6.out (And.intro HE7.out (And.intro HE8.out HE9.out))))))))
  subst e0 e1 e2 e3 e4 e5 e6 e7 e8 e9
  show Ending.returned (Value.bool (decide (l = l2))) = _
  refine congrArg (fun b => Ending.returned (.bool b)) ?_
  rw [Bool.eq_iff_iff, alikeB_iff, decide_eq_true_iff]
  simp
end Go.Proofs.Ytcahflddafdhfaa
