import Derived.Test.YtebcginnnjigjaaC18
import Derived.Test.YtebcginnnjigjaaC4
section
/- Frames: the body of one, walked. -/
open Go.RowKit
namespace Go.Proofs.Ytebcginnnjigjaa
theorem digRight_any (s : ByteArray) (w : World) : Calls Try.prog 65 #[.string s] w fun e w' => e = .returned (.bool (rightD s)) ∧ w = w' := by
  have H : ((s.size : Int) == 32) = rightD s := by
    unfold rightD
    rw [Bool.eq_iff_iff, beq_iff_eq, decide_eq_true_iff]
    omega
  go_enter Try.func65, Try.ntmps65
  go_wp2_with fail
  go_ret
  exact ⟨rfl, rfl⟩

section
theorem cells11 {w : World} {g : Nat} {t : TypeId} {v0 v1 v2 v3 v4 v5 v6 v7 v8 v9 v10 : Value} (h : w.heap[g]? = some (.cells #[v0, v1, v2, v3, v4, v5, v6, v7, v8, v9, v10] t (0, 0))) :
    w.cell? ⟨g, 0, none⟩ = some v0 ∧ w.cell? ⟨g, 1, none⟩ = some v1 ∧ w.cell? ⟨g, 2, none⟩ = some v2 ∧ w.cell? ⟨g, 3, none⟩ = some v3 ∧ w.cell? ⟨g, 4, none⟩ = some v4 ∧ w.cell? ⟨g, 5, none⟩ = some v5 ∧ w.cell? ⟨g, 6, none⟩ = some v6 ∧ w.cell? ⟨g, 7, none⟩ = some v7 ∧ w.cell? ⟨g, 8, none⟩ = some v8 ∧ w.cell? ⟨g, 9, none⟩ = some v9 ∧ w.cell? ⟨g, 10, none⟩ = some v10 := by
  refine ⟨?_, ?_, ?_, ?_, ?_, ?_, ?_, ?_, ?_, ?_, ?_⟩ <;> (rw [cell_of_row _ _ _ _ _ _ h]; rfl)
end
theorem froz11 {w : World} {g : Nat} {t : TypeId} {cs : Array Value} (h : w.heap[g]? = some (.cells cs t (0, 0))) :
    w.frozen? ⟨g, 0, none⟩ = false ∧ w.frozen? ⟨g, 1, none⟩ = false ∧ w.frozen? ⟨g, 2, none⟩ = false ∧ w.frozen? ⟨g, 3, none⟩ = false ∧ w.frozen? ⟨g, 4, none⟩ = false ∧ w.frozen? ⟨g, 5, none⟩ = false ∧ w.frozen? ⟨g, 6, none⟩ = false ∧ w.frozen? ⟨g, 7, none⟩ = false ∧ w.frozen? ⟨g, 8, none⟩ = false ∧ w.frozen? ⟨g, 9, none⟩ = false ∧ w.frozen? ⟨g, 10, none⟩ = false :=
  ⟨frozen_of_row _ _ _ _ _ h, frozen_of_row _ _ _ _ _ h, frozen_of_row _ _ _ _ _ h, frozen_of_row _ _ _ _ _ h, frozen_of_row _ _ _ _ _ h, frozen_of_row _ _ _ _ _ h, frozen_of_row _ _ _ _ _ h, frozen_of_row _ _ _ _ _ h, frozen_of_row _ _ _ _ _ h, frozen_of_row _ _ _ _ _ h, frozen_of_row _ _ _ _ _ h⟩
theorem flat_le (l : List ByteArray) (k : Nat) : ((l.take k).flatMap bl).length ≤ (l.flatMap bl).length := by
  have h : l.flatMap bl = (l.take k).flatMap bl ++ (l.drop k).flatMap bl := by rw [← List.flatMap_append, List.take_append_drop]
  rw [h, List.length_append]; omega
theorem mk11 (a0 a1 a2 a3 a4 a5 a6 a7 a8 a9 a10 : Value) : ∃ u0 u1 u2 u3 u4 u5 u6 u7 u8 u9 u10, (#[a0, a1, a2, a3, a4, a5, a6, a7, a8, a9, a10] : Array Value) = #[u0, u1, u2, u3, u4, u5, u6, u7, u8, u9, u10] := ⟨a0, a1, a2, a3, a4, a5, a6, a7, a8, a9, a10, rfl⟩

set_option maxHeartbeats 4000000 in
set_option maxRecDepth 100000 in
theorem frBody_any {w : World} {g : Nat} {A0 : Option Addr} {c0 : Nat} (h : IsW w g A0 c0 [] false) (x : Fr) (A : Option Addr) (c : Nat) (hr : Reads w 1 A x.l.length (sts x.l)) (hB : (bodyL x).length ≤ 100000000) (hl : x.l.length ≤ 2000000) (hok : FrOk x) (hsep : 0 < x.l.length → ∀ k, blk A = some k → ¬ WF g A0 k) :
    Calls Try.prog 38 #[.pointer (some ⟨g, 0, none⟩), .agg (x.cells A c)] w fun e w' => e = .returned (.agg ((told x).cells (tA x A) (tC x c))) ∧ WPost w g A0 (bodyL x) (bodyW x) w' := by
  obtain ⟨L0, hL0⟩ : ∃ L0 : List UInt8, L0 = [] := ⟨_, rfl⟩
  rw [← hL0] at h
  have HL0 := Lib.hid hL0
  clear hL0
  obtain ⟨hg, hA⟩ := BA.away h
  have Hg := Lib.hid hg
  have HA := Lib.hid hA
  have Hr := Lib.hid hr
  have HBd := Lib.hid hB
  have hS := fun cs2 => BA.start h x A c #[.int .i64 0, .int .u64 0, .int .u64 0, .int .u32 0, .int .u32 0, .int .i64 0, .int .i64 0, .int .i64 0, .int .i64 0, .string ⟨#[]⟩, .slice none 0 0] cs2 (mk11 _ _ _ _ _ _ _ _ _ _ _)
  have HSt := Lib.hid hS
  have Hw := Lib.hid h
  have Hsep := Lib.hid hsep
  have Hok := Lib.hid hok
  clear h hg hA hr hB hS hsep hok
  by_cases k1 : x.k = 1
  · have HL := Lib.hid (show bodyL x = L0 ++ be 4 x.v ++ be 2 (u64n x.n) ++ be 1 (u64n x.f) ++ bl x.d from by unfold bodyL; rw [if_pos k1, HL0.out]; rfl)
    have HW := Lib.hid (show bodyW x = (false || numBad 2 x.n || numBad 1 x.f || !rightD x.d) from by unfold bodyW; rw [if_pos k1]; rfl)
    have HT := Lib.hid (show told x = ⟨x.k, x.s, x.e, x.q, x.v, x.n, x.f, 0, 0, x.d, []⟩ ∧ tA x A = none ∧ tC x c = 0 from ⟨by unfold told; rw [if_pos k1], by unfold tA; rw [if_neg (by omega)], by unfold tC; rw [if_neg (by omega)]⟩)
    have b1 : (x.k == 1) = true := by rw [beq_iff_eq]; omega
    clear k1
    have HS := Lib.hid (HSt.out #[.int .i64 x.k, .int .u64 (x.s : Int), .int .u64 (x.e : Int), .int .u32 (x.q : Int), .int .u32 0, .int .i64 0, .int .i64 0, .int .i64 0, .int .i64 0, .string ⟨#[]⟩, .slice none 0 0])
    unfold Fr.cells at HS ⊢
    go_enter Try.func38, Try.ntmps38
    go_wp2_with fail

    generalize (((w.alloc (.cells #[.int .i64 x.k, .int .u64 (x.s : Int), .int .u64 (x.e : Int), .int .u32 (x.q : Int), .int .u32 (x.v : Int), .int .i64 x.n, .int .i64 x.f, .int .i64 x.i, .int .i64 x.c, .string x.d, .slice A x.l.length c] 58)).alloc (.cells #[.int .i64 0, .int .u64 0, .int .u64 0, .int .u32 0, .int .u32 0, .int .i64 0, .int .i64 0, .int .i64 0, .int .i64 0, .string ⟨#[]⟩, .slice none 0 0] 58)).alloc (.cells #[.int .i64 x.k, .int .u64 (x.s : Int), .int .u64 (x.e : Int), .int .u32 (x.q : Int), .int .u32 0, .int .i64 0, .int .i64 0, .int .i64 0, .int .i64 0, .string ⟨#[]⟩, .slice none 0 0] 58)) = w3 at HS ⊢
    have d4 := (cell_at HS.out.g2 4 rfl).1
    have f4 := (cell_at HS.out.g2 4 rfl).2
    have d5 := (cell_at HS.out.g2 5 rfl).1
    have f5 := (cell_at HS.out.g2 5 rfl).2
    have d6 := (cell_at HS.out.g2 6 rfl).1
    have f6 := (cell_at HS.out.g2 6 rfl).2
    have d9 := (cell_at HS.out.g2 9 rfl).1
    have f9 := (cell_at HS.out.g2 9 rfl).2

    have HS := Lib.hid (HS.out.below (w2 := w3.drew) ((Below.refl w3.heap.size w3).drew))
    obtain ⟨p0, p1, p2, p3, p4, p5, p6, p7, p8, p9, p10⟩ := frCells HS.out.g0
    have q4 := fun w' (hk : KeepQ (fun i => i = w.heap.size + 1 + 1) w3.drew w') => hk.cell (p := ⟨w.heap.size, 4, none⟩) p4 (by show ¬ (w.heap.size = w.heap.size + 1 + 1); omega)
    have q5 := fun w' (hk : KeepQ (fun i => i = w.heap.size + 1 + 1) w3.drew w') => hk.cell (p := ⟨w.heap.size, 5, none⟩) p5 (by show ¬ (w.heap.size = w.heap.size + 1 + 1); omega)
    have q6 := fun w' (hk : KeepQ (fun i => i = w.heap.size + 1 + 1) w3.drew w') => hk.cell (p := ⟨w.heap.size, 6, none⟩) p6 (by show ¬ (w.heap.size = w.heap.size + 1 + 1); omega)
    have q9 := fun w' (hk : KeepQ (fun i => i = w.heap.size + 1 + 1) w3.drew w') => hk.cell (p := ⟨w.heap.size, 9, none⟩) p9 (by show ¬ (w.heap.size = w.heap.size + 1 + 1); omega)
    clear p0 p1 p2 p3 p4 p5 p6 p7 p8 p9 p10
    refine wp_region_mix3 (KeepQ (fun i => i = w.heap.size + 1 + 1)) (KeepQ.refl (fun i => i = w.heap.size + 1 + 1)) (KeepQ.trans (fun i => i = w.heap.size + 1 + 1)) [] [(0, 0), (0, 2), (0, 4), (0, 6), (1, 1), (1, 3), (1, 5), (1, 7), (0, 8), (2, 9), (0, 10), (2, 11), (0, 12), (2, 13), (0, 14), (2, 15)] (by kernel_rfl) (by kernel_rfl) (fun d _ _ _ _ h => by cases d <;> exact h) ?_
    repeat ((first | (refine mix3_free (v := ?_) rfl rfl ?_ (mix3_norm (a' := ?_) ?_ ?_); rotate_left; focus (intro w'; go_simp; first | done | (with_reducible rfl))) | (refine mix3_pure (v := ?_) rfl rfl ?_ (mix3_norm (a' := ?_) ?_ ?_); rotate_left; focus (intro w' hR; go_simp; first | done | (with_reducible rfl))) | refine mix3_freeOff rfl rfl (mix3_norm (a' := ?_) ?_ ?_) | refine mix3_off rfl rfl (mix3_norm (a' := ?_) ?_ ?_)); rotate_left; focus (simp only [Act.put, List.getElem_toArray, List.getElem_cons_zero, List.getElem_cons_succ, List.setIfInBounds_toArray, List.set_cons_zero, List.set_cons_succ]; rfl))
    clear q4 q5 q6 q9
    refine mix3_eff rfl ?_
    simp only [List.getElem_toArray, List.getElem_cons_zero, List.getElem_cons_succ]
    go_wp2_with fail
    refine mixQ3_normal (KeepQ.of_chg ((Chg.refl (fun i => i = w.heap.size + 1 + 1) _).set (w.heap.size + 1 + 1) 4 _ (fun _ => rfl)) (fun _ _ h => h)) rfl ?_
    repeat ((first | (refine mix3_free (v := ?_) rfl rfl ?_ (mix3_norm (a' := ?_) ?_ ?_); rotate_left; focus (intro w'; go_simp; first | done | (with_reducible rfl))) | (refine mix3_pure (v := ?_) rfl rfl ?_ (mix3_norm (a' := ?_) ?_ ?_); rotate_left; focus (intro w' hR; go_simp; first | done | (with_reducible rfl))) | refine mix3_freeOff rfl rfl (mix3_norm (a' := ?_) ?_ ?_) | refine mix3_off rfl rfl (mix3_norm (a' := ?_) ?_ ?_)); rotate_left; focus (simp only [Act.put, List.getElem_toArray, List.getElem_cons_zero, List.getElem_cons_succ, List.setIfInBounds_toArray, List.set_cons_zero, List.set_cons_succ]; rfl))
    refine mix3_eff rfl ?_
    simp only [List.getElem_toArray, List.getElem_cons_zero, List.getElem_cons_succ]
    go_wp2_with fail
    refine mixQ3_normal (KeepQ.of_chg ((Chg.refl (fun i => i = w.heap.size + 1 + 1) _).set (w.heap.size + 1 + 1) 5 _ (fun _ => rfl)) (fun _ _ h => h)) rfl ?_
    repeat ((first | (refine mix3_free (v := ?_) rfl rfl ?_ (mix3_norm (a' := ?_) ?_ ?_); rotate_left; focus (intro w'; go_simp; first | done | (with_reducible rfl))) | (refine mix3_pure (v := ?_) rfl rfl ?_ (mix3_norm (a' := ?_) ?_ ?_); rotate_left; focus (intro w' hR; go_simp; first | done | (with_reducible rfl))) | refine mix3_freeOff rfl rfl (mix3_norm (a' := ?_) ?_ ?_) | refine mix3_off rfl rfl (mix3_norm (a' := ?_) ?_ ?_)); rotate_left; focus (simp only [Act.put, List.getElem_toArray, List.getElem_cons_zero, List.getElem_cons_succ, List.setIfInBounds_toArray, List.set_cons_zero, List.set_cons_succ]; rfl))
    refine mix3_eff rfl ?_
    simp only [List.getElem_toArray, List.getElem_cons_zero, List.getElem_cons_succ]
    go_wp2_with fail
    refine mixQ3_normal (KeepQ.of_chg ((Chg.refl (fun i => i = w.heap.size + 1 + 1) _).set (w.heap.size + 1 + 1) 6 _ (fun _ => rfl)) (fun _ _ h => h)) rfl ?_
    repeat ((first | (refine mix3_free (v := ?_) rfl rfl ?_ (mix3_norm (a' := ?_) ?_ ?_); rotate_left; focus (intro w'; go_simp; first | done | (with_reducible rfl))) | (refine mix3_pure (v := ?_) rfl rfl ?_ (mix3_norm (a' := ?_) ?_ ?_); rotate_left; focus (intro w' hR; go_simp; first | done | (with_reducible rfl))) | refine mix3_freeOff rfl rfl (mix3_norm (a' := ?_) ?_ ?_) | refine mix3_off rfl rfl (mix3_norm (a' := ?_) ?_ ?_)); rotate_left; focus (simp only [Act.put, List.getElem_toArray, List.getElem_cons_zero, List.getElem_cons_succ, List.setIfInBounds_toArray, List.set_cons_zero, List.set_cons_succ]; rfl))
    refine mix3_eff rfl ?_
    simp only [List.getElem_toArray, List.getElem_cons_zero, List.getElem_cons_succ]
    go_wp2_with fail
    refine mixQ3_normal (KeepQ.of_chg ((Chg.refl (fun i => i = w.heap.size + 1 + 1) _).set (w.heap.size + 1 + 1) 9 _ (fun _ => rfl)) (fun _ _ h => h)) rfl ?_
    refine mix3_done ?_
    clear d4 f4 d5 f5 d6 f6 d9 f9
    have HS := Lib.hid (show BA w g A0 x A c (((((w3.setCell ⟨w.heap.size + 1 + 1, 4, none⟩ (.int .u32 (x.v : Int))).setCell ⟨w.heap.size + 1 + 1, 5, none⟩ (.int .i64 x.n)).setCell ⟨w.heap.size + 1 + 1, 6, none⟩ (.int .i64 x.f)).setCell ⟨w.heap.size + 1 + 1, 9, none⟩ (.string x.d)).drew) _ _ _ _ _ from ((((HS.out.set Hg.out HA.out 4 (.int .u32 (x.v : Int))).set Hg.out HA.out 5 (.int .i64 x.n)).set Hg.out HA.out 6 (.int .i64 x.f)).set Hg.out HA.out 9 (.string x.d)))
    simp only [List.setIfInBounds_toArray, List.set_cons_zero, List.set_cons_succ] at HS
    generalize ((((w3.setCell ⟨w.heap.size + 1 + 1, 4, none⟩ (.int .u32 (x.v : Int))).setCell ⟨w.heap.size + 1 + 1, 5, none⟩ (.int .i64 x.n)).setCell ⟨w.heap.size + 1 + 1, 6, none⟩ (.int .i64 x.f)).setCell ⟨w.heap.size + 1 + 1, 9, none⟩ (.string x.d)).drew = w4 at HS ⊢
    obtain ⟨p0, p1, p2, p3, p4, p5, p6, p7, p8, p9, p10⟩ := frCells HS.out.g0
    obtain ⟨g0, g1, h0, h1⟩ := cells2 HS.out.wr.cell
    have hu := wrap64_nat Hok.out.v64
    go_wp2_with fail
    have hbd : Below w4.heap.size w4 w4.drew := (Below.refl w4.heap.size w4).drew
    have HSd := Lib.hid (HS.out.below hbd)
    have HP := Lib.hid (put_any A0 L0 c0 4 x.v Hok.out.v64 _ HSd.out.wr.row.reads (by rw [HL0.out]; decide))
    have q0 := fun w' (hk : KeepsBut [] w4.drew w') => hk.cell (p := ⟨g, 0, none⟩) g0 (by simp)
    have q4 := fun w' (hk : KeepsBut [] w4.drew w') => hk.cell (p := ⟨w.heap.size, 4, none⟩) p4 (by simp)
    clear hbd p0 p1 p2 p3 p4 p5 p6 p7 p8 p9 p10 g0 g1 h0 h1
    refine wp_region_mix3 (KeepsBut []) (KeepsBut.refl []) (KeepsBut.trans []) [11] [(0, 0), (0, 1), (0, 2), (0, 3), (0, 5), (1, 4), (1, 6), (1, 7), (2, 8), (0, 9), (0, 10), (2, 11)] (by kernel_rfl) (by kernel_rfl) (fun d _ _ _ _ h => by cases d <;> exact h) ?_
    repeat ((first | (refine mix3_free (v := ?_) rfl rfl ?_ (mix3_norm (a' := ?_) ?_ ?_); rotate_left; focus (intro w'; go_simp; first | done | (with_reducible rfl))) | (refine mix3_pure (v := ?_) rfl rfl ?_ (mix3_norm (a' := ?_) ?_ ?_); rotate_left; focus (intro w' hR; go_simp; first | done | (with_reducible rfl))) | refine mix3_freeOff rfl rfl (mix3_norm (a' := ?_) ?_ ?_) | refine mix3_off rfl rfl (mix3_norm (a' := ?_) ?_ ?_)); rotate_left; focus (simp only [Act.put, List.getElem_toArray, List.getElem_cons_zero, List.getElem_cons_succ, List.setIfInBounds_toArray, List.set_cons_zero, List.set_cons_succ]; rfl))
    clear q0 q4 hu
    refine mix3_eff rfl ?_
    simp only [List.getElem_toArray, List.getElem_cons_zero, List.getElem_cons_succ]
    go_wp2_with fail
    refine HP.out.mono ?_
    rintro e w5 ⟨A5, c5, rfl, ho, hb⟩
    rw [wPut_ok (wOk_true (by omega) (by omega)), show Int.toNat 4 = 4 from rfl] at ho ⊢
    obtain ⟨hp, v5, v6⟩ := HSd.out.wr.put ho hb
    have el : (L0 ++ be 4 x.v).length = L0.length + 4 := by rw [List.length_append, be_length]
    rw [el] at hp ⊢
    obtain ⟨A', c', h'⟩ := HSd.out.step Hg.out HA.out hp
    have HS := Lib.hid h'
    have HK := Lib.hid (KeepsBut.of_below (M := []) hb)
    clear ho hb hp h' el
    go_wp2_with fail
    refine mixQ3_normal HK.out rfl ?_
    repeat ((first | (refine mix3_free (v := ?_) rfl rfl ?_ (mix3_norm (a' := ?_) ?_ ?_); rotate_left; focus (intro w'; go_simp; first | done | (with_reducible rfl))) | (refine mix3_pure (v := ?_) rfl rfl ?_ (mix3_norm (a' := ?_) ?_ ?_); rotate_left; focus (intro w' hR; go_simp; first | done | (with_reducible rfl))) | refine mix3_freeOff rfl rfl (mix3_norm (a' := ?_) ?_ ?_) | refine mix3_off rfl rfl (mix3_norm (a' := ?_) ?_ ?_)); rotate_left; focus (simp only [Act.put, List.getElem_toArray, List.getElem_cons_zero, List.getElem_cons_succ, List.setIfInBounds_toArray, List.set_cons_zero, List.set_cons_succ]; rfl))
    refine mix3_eff rfl ?_
    simp only [List.getElem_toArray, List.getElem_cons_zero, List.getElem_cons_succ]
    go_wp2_with fail
    refine mixQ3_last (by simp) rfl ?_
    refine mix3_done ?_
    clear v5 v6
    generalize w5.setCell ⟨g, 0, none⟩ (.slice A5 (L0.length + 4) c5) = w6 at HS ⊢
    obtain ⟨p0, p1, p2, p3, p4, p5, p6, p7, p8, p9, p10⟩ := frCells HS.out.g0
    obtain ⟨g0, g1, h0, h1⟩ := cells2 HS.out.wr.cell

    go_wp2_with fail
    refine (frNum2_any HS.out.wr x.n (by have h1 := HBd.out; rw [HL.out] at h1; simp only [List.length_append, be_length, bl_length] at h1 ⊢; omega)).mono ?_
    rintro e w' ⟨rfl, hp⟩
    obtain ⟨A', c', h'⟩ := HS.out.step Hg.out HA.out hp
    have HS := Lib.hid h'
    clear hp h' p0 p1 p2 p3 p4 p5 p6 p7 p8 p9 p10 g0 g1 h0 h1
    obtain ⟨p0, p1, p2, p3, p4, p5, p6, p7, p8, p9, p10⟩ := frCells HS.out.g0
    obtain ⟨g0, g1, h0, h1⟩ := cells2 HS.out.wr.cell

    go_wp2_with fail
    refine (frNum1_any HS.out.wr x.f (by have h1 := HBd.out; rw [HL.out] at h1; simp only [List.length_append, be_length, bl_length] at h1 ⊢; omega)).mono ?_
    rintro e w' ⟨rfl, hp⟩
    obtain ⟨A', c', h'⟩ := HS.out.step Hg.out HA.out hp
    have HS := Lib.hid h'
    clear hp h' p0 p1 p2 p3 p4 p5 p6 p7 p8 p9 p10 g0 g1 h0 h1
    obtain ⟨p0, p1, p2, p3, p4, p5, p6, p7, p8, p9, p10⟩ := frCells HS.out.g0
    obtain ⟨g0, g1, h0, h1⟩ := cells2 HS.out.wr.cell

    go_wp2_with fail
    have HSd := Lib.hid (HS.out.below (w2 := w'.drew) ((Below.refl w'.heap.size w').drew))
    have q9 := fun w'' (hk : KeepsBut [] w'.drew w'') => hk.cell (p := ⟨w.heap.size, 9, none⟩) p9 (by simp)
    clear p0 p1 p2 p3 p4 p5 p6 p7 p8 p9 p10 g0 g1 h0 h1
    refine wp_region_mix3 (KeepsBut []) (KeepsBut.refl []) (KeepsBut.trans []) [6] [(0, 0), (0, 1), (0, 3), (1, 2), (1, 4), (2, 5), (2, 6)] (by kernel_rfl) (by kernel_rfl) (fun d _ _ _ _ h => by cases d <;> exact h) ?_
    repeat ((first | (refine mix3_free (v := ?_) rfl rfl ?_ (mix3_norm (a' := ?_) ?_ ?_); rotate_left; focus (intro w'; go_simp; first | done | (with_reducible rfl))) | (refine mix3_pure (v := ?_) rfl rfl ?_ (mix3_norm (a' := ?_) ?_ ?_); rotate_left; focus (intro w' hR; go_simp; first | done | (with_reducible rfl))) | refine mix3_freeOff rfl rfl (mix3_norm (a' := ?_) ?_ ?_) | refine mix3_off rfl rfl (mix3_norm (a' := ?_) ?_ ?_)); rotate_left; focus (simp only [Act.put, List.getElem_toArray, List.getElem_cons_zero, List.getElem_cons_succ, List.setIfInBounds_toArray, List.set_cons_zero, List.set_cons_succ]; rfl))
    clear q9
    refine mix3_eff rfl ?_
    simp only [List.getElem_toArray, List.getElem_cons_zero, List.getElem_cons_succ]
    go_wp2_with fail
    refine (digRight_any x.d _).mono ?_
    rintro e w'' ⟨rfl, rfl⟩
    go_wp2_with fail
    refine mixQ3_normal (KeepsBut.refl [] _) rfl ?_
    refine mix3_eff rfl ?_
    simp only [List.getElem_toArray, List.getElem_cons_zero, List.getElem_cons_succ]
    go_wp2_with fail
    refine (frText_any HSd.out.wr x.d _ (by have h1 := HBd.out; rw [HL.out] at h1; simp only [List.length_append, be_length, bl_length] at h1 ⊢; omega)).mono ?_
    rintro e w'' ⟨rfl, hp⟩
    obtain ⟨A', c', h'⟩ := HSd.out.step Hg.out HA.out hp
    have HS := Lib.hid h'
    clear hp h' HSd
    go_wp2_with fail
    refine mixQ3_last (by simp) rfl ?_
    refine mix3_done ?_
    obtain ⟨p0, p1, p2, p3, p4, p5, p6, p7, p8, p9, p10⟩ := frCells HS.out.g0
    obtain ⟨g0, g1, h0, h1⟩ := cells2 HS.out.wr.cell
    obtain ⟨u0, u1, u2, u3, u4, u5, u6, u7, u8, u9, u10, hu⟩ := HS.out.g1
    obtain ⟨d0, d1, d2, d3, d4, d5, d6, d7, d8, d9, d10⟩ := cells11 HS.out.g2
    obtain ⟨s0, s1, s2, s3, s4, s5, s6, s7, s8, s9, s10⟩ := cells11 hu
    obtain ⟨t0, t1, t2, t3, t4, t5, t6, t7, t8, t9, t10⟩ := froz11 hu
    have Hu := Lib.hid hu
    clear hu p0 p1 p2 p3 p4 p5 p6 p7 p8 p9 p10 g0 g1 h0 h1
    go_wp2_with fail
    obtain ⟨z1, z2⟩ := set11 Hu.out (mk11 _ _ _ _ _ _ _ _ _ _ _) _ _ _ _ _ _ _ _ _ _ _
    exact bodyPost_ret (results_cell_row rfl _ _ (w.heap.size + 1) _ _ _ _ rfl z1 Try.underlying58 rfl (by kernel_rfl)) rfl ⟨by rw [HT.out.1, HT.out.2.1, HT.out.2.2]; rfl, by rw [HL.out, HW.out]; exact HS.out.fin Hg.out HA.out z2⟩
  · by_cases k2 : x.k = 2
    · skip
      have HL := Lib.hid (show bodyL x = L0 ++ be 1 (u64n x.c) from by unfold bodyL; rw [if_neg k1, if_pos k2]; rw [HL0.out]; rfl)
      have HW := Lib.hid (show bodyW x = (false || numBad 1 x.c) from by unfold bodyW; rw [if_neg k1, if_pos k2]; rfl)
      have HT := Lib.hid (show told x = ⟨x.k, x.s, x.e, x.q, 0, 0, 0, 0, x.c, ⟨#[]⟩, []⟩ ∧ tA x A = none ∧ tC x c = 0 from ⟨by unfold told; rw [if_neg k1, if_pos k2], by unfold tA; rw [if_neg (by omega)], by unfold tC; rw [if_neg (by omega)]⟩)
      have b1 : (x.k == 1) = false := by rw [beq_eq_false_iff_ne]; omega
      have b2 : (x.k == 2) = true := by rw [beq_iff_eq]; omega
      clear k1 k2
      have HS := Lib.hid (HSt.out #[.int .i64 x.k, .int .u64 (x.s : Int), .int .u64 (x.e : Int), .int .u32 (x.q : Int), .int .u32 0, .int .i64 0, .int .i64 0, .int .i64 0, .int .i64 x.c, .string ⟨#[]⟩, .slice none 0 0])
      unfold Fr.cells at HS ⊢
      go_enter Try.func38, Try.ntmps38
      go_wp2_with fail

      generalize (((w.alloc (.cells #[.int .i64 x.k, .int .u64 (x.s : Int), .int .u64 (x.e : Int), .int .u32 (x.q : Int), .int .u32 (x.v : Int), .int .i64 x.n, .int .i64 x.f, .int .i64 x.i, .int .i64 x.c, .string x.d, .slice A x.l.length c] 58)).alloc (.cells #[.int .i64 0, .int .u64 0, .int .u64 0, .int .u32 0, .int .u32 0, .int .i64 0, .int .i64 0, .int .i64 0, .int .i64 0, .string ⟨#[]⟩, .slice none 0 0] 58)).alloc (.cells #[.int .i64 x.k, .int .u64 (x.s : Int), .int .u64 (x.e : Int), .int .u32 (x.q : Int), .int .u32 0, .int .i64 0, .int .i64 0, .int .i64 0, .int .i64 x.c, .string ⟨#[]⟩, .slice none 0 0] 58)) = w3 at HS ⊢
      obtain ⟨p0, p1, p2, p3, p4, p5, p6, p7, p8, p9, p10⟩ := frCells HS.out.g0
      obtain ⟨g0, g1, h0, h1⟩ := cells2 HS.out.wr.cell
      go_wp2_with fail
      refine (frNum1_any HS.out.wr x.c (by rw [HL0.out]; decide)).mono ?_
      rintro e w' ⟨rfl, hp⟩
      obtain ⟨A', c', h'⟩ := HS.out.step Hg.out HA.out hp
      have HS := Lib.hid h'
      clear hp h' p0 p1 p2 p3 p4 p5 p6 p7 p8 p9 p10 g0 g1 h0 h1
      obtain ⟨p0, p1, p2, p3, p4, p5, p6, p7, p8, p9, p10⟩ := frCells HS.out.g0
      obtain ⟨g0, g1, h0, h1⟩ := cells2 HS.out.wr.cell
      obtain ⟨u0, u1, u2, u3, u4, u5, u6, u7, u8, u9, u10, hu⟩ := HS.out.g1
      obtain ⟨d0, d1, d2, d3, d4, d5, d6, d7, d8, d9, d10⟩ := cells11 HS.out.g2
      obtain ⟨s0, s1, s2, s3, s4, s5, s6, s7, s8, s9, s10⟩ := cells11 hu
      obtain ⟨t0, t1, t2, t3, t4, t5, t6, t7, t8, t9, t10⟩ := froz11 hu
      have Hu := Lib.hid hu
      clear hu p0 p1 p2 p3 p4 p5 p6 p7 p8 p9 p10 g0 g1 h0 h1
      go_wp2_with fail
      obtain ⟨z1, z2⟩ := set11 Hu.out (mk11 _ _ _ _ _ _ _ _ _ _ _) _ _ _ _ _ _ _ _ _ _ _
      exact bodyPost_ret (results_cell_row rfl _ _ (w.heap.size + 1) _ _ _ _ rfl z1 Try.underlying58 rfl (by kernel_rfl)) rfl ⟨by rw [HT.out.1, HT.out.2.1, HT.out.2.2]; rfl, by rw [HL.out, HW.out]; exact HS.out.fin Hg.out HA.out z2⟩
    · by_cases k3 : x.k = 3 ∨ x.k = 5
      · skip
        have HL := Lib.hid (show bodyL x = L0 ++ be 2 (u64n x.i) from by unfold bodyL; rw [if_neg k1, if_neg k2, if_pos k3]; rw [HL0.out]; rfl)
        have HW := Lib.hid (show bodyW x = (false || numBad 2 x.i) from by unfold bodyW; rw [if_neg k1, if_neg k2, if_pos k3]; rfl)
        have HT := Lib.hid (show told x = ⟨x.k, x.s, x.e, x.q, 0, 0, 0, x.i, 0, ⟨#[]⟩, []⟩ ∧ tA x A = none ∧ tC x c = 0 from ⟨by unfold told; rw [if_neg k1, if_neg k2, if_pos k3], by unfold tA; rw [if_neg (by omega)], by unfold tC; rw [if_neg (by omega)]⟩)
        rcases k3 with k3 | k3
        · skip
          have b1 : (x.k == 1) = false := by rw [beq_eq_false_iff_ne]; omega
          have b2 : (x.k == 2) = false := by rw [beq_eq_false_iff_ne]; omega
          have b3 : (x.k == 3) = true := by rw [beq_iff_eq]; omega
          clear k1 k2 k3
          have HS := Lib.hid (HSt.out #[.int .i64 x.k, .int .u64 (x.s : Int), .int .u64 (x.e : Int), .int .u32 (x.q : Int), .int .u32 0, .int .i64 0, .int .i64 0, .int .i64 x.i, .int .i64 0, .string ⟨#[]⟩, .slice none 0 0])
          unfold Fr.cells at HS ⊢
          go_enter Try.func38, Try.ntmps38
          go_wp2_with fail

          generalize (((w.alloc (.cells #[.int .i64 x.k, .int .u64 (x.s : Int), .int .u64 (x.e : Int), .int .u32 (x.q : Int), .int .u32 (x.v : Int), .int .i64 x.n, .int .i64 x.f, .int .i64 x.i, .int .i64 x.c, .string x.d, .slice A x.l.length c] 58)).alloc (.cells #[.int .i64 0, .int .u64 0, .int .u64 0, .int .u32 0, .int .u32 0, .int .i64 0, .int .i64 0, .int .i64 0, .int .i64 0, .string ⟨#[]⟩, .slice none 0 0] 58)).alloc (.cells #[.int .i64 x.k, .int .u64 (x.s : Int), .int .u64 (x.e : Int), .int .u32 (x.q : Int), .int .u32 0, .int .i64 0, .int .i64 0, .int .i64 x.i, .int .i64 0, .string ⟨#[]⟩, .slice none 0 0] 58)) = w3 at HS ⊢
          obtain ⟨p0, p1, p2, p3, p4, p5, p6, p7, p8, p9, p10⟩ := frCells HS.out.g0
          obtain ⟨g0, g1, h0, h1⟩ := cells2 HS.out.wr.cell
          go_wp2_with fail
          refine (frNum2_any HS.out.wr x.i (by rw [HL0.out]; decide)).mono ?_
          rintro e w' ⟨rfl, hp⟩
          obtain ⟨A', c', h'⟩ := HS.out.step Hg.out HA.out hp
          have HS := Lib.hid h'
          clear hp h' p0 p1 p2 p3 p4 p5 p6 p7 p8 p9 p10 g0 g1 h0 h1
          obtain ⟨p0, p1, p2, p3, p4, p5, p6, p7, p8, p9, p10⟩ := frCells HS.out.g0
          obtain ⟨g0, g1, h0, h1⟩ := cells2 HS.out.wr.cell
          obtain ⟨u0, u1, u2, u3, u4, u5, u6, u7, u8, u9, u10, hu⟩ := HS.out.g1
          obtain ⟨d0, d1, d2, d3, d4, d5, d6, d7, d8, d9, d10⟩ := cells11 HS.out.g2
          obtain ⟨s0, s1, s2, s3, s4, s5, s6, s7, s8, s9, s10⟩ := cells11 hu
          obtain ⟨t0, t1, t2, t3, t4, t5, t6, t7, t8, t9, t10⟩ := froz11 hu
          have Hu := Lib.hid hu
          clear hu p0 p1 p2 p3 p4 p5 p6 p7 p8 p9 p10 g0 g1 h0 h1
          go_wp2_with fail
          obtain ⟨z1, z2⟩ := set11 Hu.out (mk11 _ _ _ _ _ _ _ _ _ _ _) _ _ _ _ _ _ _ _ _ _ _
          exact bodyPost_ret (results_cell_row rfl _ _ (w.heap.size + 1) _ _ _ _ rfl z1 Try.underlying58 rfl (by kernel_rfl)) rfl ⟨by rw [HT.out.1, HT.out.2.1, HT.out.2.2]; rfl, by rw [HL.out, HW.out]; exact HS.out.fin Hg.out HA.out z2⟩
        · skip
          have b1 : (x.k == 1) = false := by rw [beq_eq_false_iff_ne]; omega
          have b2 : (x.k == 2) = false := by rw [beq_eq_false_iff_ne]; omega
          have b3 : (x.k == 3) = false := by rw [beq_eq_false_iff_ne]; omega
          have b5 : (x.k == 5) = true := by rw [beq_iff_eq]; omega
          clear k1 k2 k3
          have HS := Lib.hid (HSt.out #[.int .i64 x.k, .int .u64 (x.s : Int), .int .u64 (x.e : Int), .int .u32 (x.q : Int), .int .u32 0, .int .i64 0, .int .i64 0, .int .i64 x.i, .int .i64 0, .string ⟨#[]⟩, .slice none 0 0])
          unfold Fr.cells at HS ⊢
          go_enter Try.func38, Try.ntmps38
          go_wp2_with fail

          generalize (((w.alloc (.cells #[.int .i64 x.k, .int .u64 (x.s : Int), .int .u64 (x.e : Int), .int .u32 (x.q : Int), .int .u32 (x.v : Int), .int .i64 x.n, .int .i64 x.f, .int .i64 x.i, .int .i64 x.c, .string x.d, .slice A x.l.length c] 58)).alloc (.cells #[.int .i64 0, .int .u64 0, .int .u64 0, .int .u32 0, .int .u32 0, .int .i64 0, .int .i64 0, .int .i64 0, .int .i64 0, .string ⟨#[]⟩, .slice none 0 0] 58)).alloc (.cells #[.int .i64 x.k, .int .u64 (x.s : Int), .int .u64 (x.e : Int), .int .u32 (x.q : Int), .int .u32 0, .int .i64 0, .int .i64 0, .int .i64 x.i, .int .i64 0, .string ⟨#[]⟩, .slice none 0 0] 58)) = w3 at HS ⊢
          obtain ⟨p0, p1, p2, p3, p4, p5, p6, p7, p8, p9, p10⟩ := frCells HS.out.g0
          obtain ⟨g0, g1, h0, h1⟩ := cells2 HS.out.wr.cell
          go_wp2_with fail
          refine (frNum2_any HS.out.wr x.i (by rw [HL0.out]; decide)).mono ?_
          rintro e w' ⟨rfl, hp⟩
          obtain ⟨A', c', h'⟩ := HS.out.step Hg.out HA.out hp
          have HS := Lib.hid h'
          clear hp h' p0 p1 p2 p3 p4 p5 p6 p7 p8 p9 p10 g0 g1 h0 h1
          obtain ⟨p0, p1, p2, p3, p4, p5, p6, p7, p8, p9, p10⟩ := frCells HS.out.g0
          obtain ⟨g0, g1, h0, h1⟩ := cells2 HS.out.wr.cell
          obtain ⟨u0, u1, u2, u3, u4, u5, u6, u7, u8, u9, u10, hu⟩ := HS.out.g1
          obtain ⟨d0, d1, d2, d3, d4, d5, d6, d7, d8, d9, d10⟩ := cells11 HS.out.g2
          obtain ⟨s0, s1, s2, s3, s4, s5, s6, s7, s8, s9, s10⟩ := cells11 hu
          obtain ⟨t0, t1, t2, t3, t4, t5, t6, t7, t8, t9, t10⟩ := froz11 hu
          have Hu := Lib.hid hu
          clear hu p0 p1 p2 p3 p4 p5 p6 p7 p8 p9 p10 g0 g1 h0 h1
          go_wp2_with fail
          obtain ⟨z1, z2⟩ := set11 Hu.out (mk11 _ _ _ _ _ _ _ _ _ _ _) _ _ _ _ _ _ _ _ _ _ _
          exact bodyPost_ret (results_cell_row rfl _ _ (w.heap.size + 1) _ _ _ _ rfl z1 Try.underlying58 rfl (by kernel_rfl)) rfl ⟨by rw [HT.out.1, HT.out.2.1, HT.out.2.2]; rfl, by rw [HL.out, HW.out]; exact HS.out.fin Hg.out HA.out z2⟩
      · by_cases k4 : x.k = 4
        · skip
          have HL := Lib.hid (show bodyL x = L0 ++ be 2 (u64n x.i) ++ be 1 (u64n x.l.length) ++ x.l.flatMap bl from by unfold bodyL; rw [if_neg k1, if_neg k2, if_neg k3, if_pos k4]; rw [HL0.out]; rfl)
          have HW := Lib.hid (show bodyW x = (false || numBad 2 x.i || numBad 1 x.l.length || decide (4 < x.l.length) || x.l.any (fun s => !rightD s)) from by unfold bodyW; rw [if_neg k1, if_neg k2, if_neg k3, if_pos k4]; rfl)
          have HT := Lib.hid (show told x = ⟨x.k, x.s, x.e, x.q, 0, 0, 0, x.i, 0, ⟨#[]⟩, x.l⟩ ∧ tA x A = A ∧ tC x c = c from ⟨by unfold told; rw [if_neg k1, if_neg k2, if_neg k3, if_pos k4], by unfold tA; rw [if_pos k4], by unfold tC; rw [if_pos k4]⟩)
          have b1 : (x.k == 1) = false := by rw [beq_eq_false_iff_ne]; omega
          have b2 : (x.k == 2) = false := by rw [beq_eq_false_iff_ne]; omega
          have b3 : (x.k == 3) = false := by rw [beq_eq_false_iff_ne]; omega
          have b5 : (x.k == 5) = false := by rw [beq_eq_false_iff_ne]; omega
          have b4 : (x.k == 4) = true := by rw [beq_iff_eq]; omega
          clear k1 k2 k3 k4
          have HS := Lib.hid (HSt.out #[.int .i64 x.k, .int .u64 (x.s : Int), .int .u64 (x.e : Int), .int .u32 (x.q : Int), .int .u32 0, .int .i64 0, .int .i64 0, .int .i64 0, .int .i64 0, .string ⟨#[]⟩, .slice none 0 0])
          unfold Fr.cells at HS ⊢
          go_enter Try.func38, Try.ntmps38
          go_wp2_with fail

          generalize (((w.alloc (.cells #[.int .i64 x.k, .int .u64 (x.s : Int), .int .u64 (x.e : Int), .int .u32 (x.q : Int), .int .u32 (x.v : Int), .int .i64 x.n, .int .i64 x.f, .int .i64 x.i, .int .i64 x.c, .string x.d, .slice A x.l.length c] 58)).alloc (.cells #[.int .i64 0, .int .u64 0, .int .u64 0, .int .u32 0, .int .u32 0, .int .i64 0, .int .i64 0, .int .i64 0, .int .i64 0, .string ⟨#[]⟩, .slice none 0 0] 58)).alloc (.cells #[.int .i64 x.k, .int .u64 (x.s : Int), .int .u64 (x.e : Int), .int .u32 (x.q : Int), .int .u32 0, .int .i64 0, .int .i64 0, .int .i64 0, .int .i64 0, .string ⟨#[]⟩, .slice none 0 0] 58)) = w3 at HS ⊢
          have d7 := (cell_at HS.out.g2 7 rfl).1
          have f7 := (cell_at HS.out.g2 7 rfl).2
          have d10 := (cell_at HS.out.g2 10 rfl).1
          have f10 := (cell_at HS.out.g2 10 rfl).2

          have HS := Lib.hid (HS.out.below (w2 := w3.drew) ((Below.refl w3.heap.size w3).drew))
          obtain ⟨p0, p1, p2, p3, p4, p5, p6, p7, p8, p9, p10⟩ := frCells HS.out.g0
          have q7 := fun w' (hk : KeepQ (fun i => i = w.heap.size + 1 + 1) w3.drew w') => hk.cell (p := ⟨w.heap.size, 7, none⟩) p7 (by show ¬ (w.heap.size = w.heap.size + 1 + 1); omega)
          have q10 := fun w' (hk : KeepQ (fun i => i = w.heap.size + 1 + 1) w3.drew w') => hk.cell (p := ⟨w.heap.size, 10, none⟩) p10 (by show ¬ (w.heap.size = w.heap.size + 1 + 1); omega)
          clear p0 p1 p2 p3 p4 p5 p6 p7 p8 p9 p10
          refine wp_region_mix3 (KeepQ (fun i => i = w.heap.size + 1 + 1)) (KeepQ.refl (fun i => i = w.heap.size + 1 + 1)) (KeepQ.trans (fun i => i = w.heap.size + 1 + 1)) [] [(0, 0), (0, 2), (1, 1), (1, 3), (0, 4), (2, 5), (0, 6), (2, 7)] (by kernel_rfl) (by kernel_rfl) (fun d _ _ _ _ h => by cases d <;> exact h) ?_
          repeat ((first | (refine mix3_free (v := ?_) rfl rfl ?_ (mix3_norm (a' := ?_) ?_ ?_); rotate_left; focus (intro w'; go_simp; first | done | (with_reducible rfl))) | (refine mix3_pure (v := ?_) rfl rfl ?_ (mix3_norm (a' := ?_) ?_ ?_); rotate_left; focus (intro w' hR; go_simp; first | done | (with_reducible rfl))) | refine mix3_freeOff rfl rfl (mix3_norm (a' := ?_) ?_ ?_) | refine mix3_off rfl rfl (mix3_norm (a' := ?_) ?_ ?_)); rotate_left; focus (simp only [Act.put, List.getElem_toArray, List.getElem_cons_zero, List.getElem_cons_succ, List.setIfInBounds_toArray, List.set_cons_zero, List.set_cons_succ]; rfl))
          clear q7 q10
          refine mix3_eff rfl ?_
          simp only [List.getElem_toArray, List.getElem_cons_zero, List.getElem_cons_succ]
          go_wp2_with fail
          refine mixQ3_normal (KeepQ.of_chg ((Chg.refl (fun i => i = w.heap.size + 1 + 1) _).set (w.heap.size + 1 + 1) 7 _ (fun _ => rfl)) (fun _ _ h => h)) rfl ?_
          repeat ((first | (refine mix3_free (v := ?_) rfl rfl ?_ (mix3_norm (a' := ?_) ?_ ?_); rotate_left; focus (intro w'; go_simp; first | done | (with_reducible rfl))) | (refine mix3_pure (v := ?_) rfl rfl ?_ (mix3_norm (a' := ?_) ?_ ?_); rotate_left; focus (intro w' hR; go_simp; first | done | (with_reducible rfl))) | refine mix3_freeOff rfl rfl (mix3_norm (a' := ?_) ?_ ?_) | refine mix3_off rfl rfl (mix3_norm (a' := ?_) ?_ ?_)); rotate_left; focus (simp only [Act.put, List.getElem_toArray, List.getElem_cons_zero, List.getElem_cons_succ, List.setIfInBounds_toArray, List.set_cons_zero, List.set_cons_succ]; rfl))
          refine mix3_eff rfl ?_
          simp only [List.getElem_toArray, List.getElem_cons_zero, List.getElem_cons_succ]
          go_wp2_with fail
          refine mixQ3_normal (KeepQ.of_chg ((Chg.refl (fun i => i = w.heap.size + 1 + 1) _).set (w.heap.size + 1 + 1) 10 _ (fun _ => rfl)) (fun _ _ h => h)) rfl ?_
          refine mix3_done ?_
          clear d7 f7 d10 f10
          have HS := Lib.hid (show BA w g A0 x A c (((w3.setCell ⟨w.heap.size + 1 + 1, 7, none⟩ (.int .i64 x.i)).setCell ⟨w.heap.size + 1 + 1, 10, none⟩ (.slice A x.l.length c)).drew) _ _ _ _ _ from ((HS.out.set Hg.out HA.out 7 (.int .i64 x.i)).set Hg.out HA.out 10 (.slice A x.l.length c)))
          simp only [List.setIfInBounds_toArray, List.set_cons_zero, List.set_cons_succ] at HS
          generalize ((w3.setCell ⟨w.heap.size + 1 + 1, 7, none⟩ (.int .i64 x.i)).setCell ⟨w.heap.size + 1 + 1, 10, none⟩ (.slice A x.l.length c)).drew = w4 at HS ⊢
          obtain ⟨p0, p1, p2, p3, p4, p5, p6, p7, p8, p9, p10⟩ := frCells HS.out.g0
          obtain ⟨g0, g1, h0, h1⟩ := cells2 HS.out.wr.cell
          go_wp2_with fail
          refine (frNum2_any HS.out.wr x.i (by rw [HL0.out]; decide)).mono ?_
          rintro e w' ⟨rfl, hp⟩
          obtain ⟨A', c', h'⟩ := HS.out.step Hg.out HA.out hp
          have HS := Lib.hid h'
          clear hp h' p0 p1 p2 p3 p4 p5 p6 p7 p8 p9 p10 g0 g1 h0 h1
          obtain ⟨p0, p1, p2, p3, p4, p5, p6, p7, p8, p9, p10⟩ := frCells HS.out.g0
          obtain ⟨g0, g1, h0, h1⟩ := cells2 HS.out.wr.cell
          go_wp2_with fail
          refine (frNum1_any HS.out.wr (x.l.length : Int) (by have h1 := HBd.out; rw [HL.out] at h1; simp only [List.length_append, be_length] at h1 ⊢; omega)).mono ?_
          rintro e w' ⟨rfl, hp⟩
          obtain ⟨A', c', h'⟩ := HS.out.step Hg.out HA.out hp
          have HS := Lib.hid h'
          clear hp h' p0 p1 p2 p3 p4 p5 p6 p7 p8 p9 p10 g0 g1 h0 h1
          obtain ⟨p0, p1, p2, p3, p4, p5, p6, p7, p8, p9, p10⟩ := frCells HS.out.g0
          obtain ⟨g0, g1, h0, h1⟩ := cells2 HS.out.wr.cell

          obtain ⟨v0, hv0⟩ : ∃ v0 : Bool, v0 = (false || numBad 2 x.i || numBad 1 x.l.length) := ⟨_, rfl⟩
          have Hv0 := Lib.hid hv0
          rw [← hv0] at HS g1
          clear hv0
          have hsp : (v0 = true) ∨ (v0 = false ∧ 4 < x.l.length) ∨ (v0 = false ∧ ¬ 4 < x.l.length) := by
            cases v0
            · by_cases h4 : 4 < x.l.length
              · exact .inr (.inl ⟨rfl, h4⟩)
              · exact .inr (.inr ⟨rfl, h4⟩)
            · exact .inl rfl
          rcases hsp with rfl | ⟨rfl, h4⟩ | ⟨rfl, h4⟩
          · skip
            have HV := Lib.hid (show (true || decide (4 < x.l.length)) = true from rfl)
            obtain ⟨A', c', h'⟩ := HS.out.step Hg.out HA.out (⟨_, _, HS.out.wr.setB true, (Chg.refl _ _).set g 1 _ (fun _ => .inl rfl), fun k hk => .inl hk⟩ : WPost w' g _ _ true (w'.setCell ⟨g, 1, none⟩ (.bool true)))
            have HS := Lib.hid h'
            clear h'
            go_wp2_with fail
            clear p0 p1 p2 p3 p4 p5 p6 p7 p8 p9 p10 g0 g1 h0 h1
            generalize w'.setCell ⟨g, 1, none⟩ _ = w7 at HS ⊢
            obtain ⟨p0, p1, p2, p3, p4, p5, p6, p7, p8, p9, p10⟩ := frCells HS.out.g0
            go_wp2_with fail
            clear p0 p1 p2 p3 p4 p5 p6 p7 p8 p9 p10
            go_loopw [114] (fun i wr => ∃ (k : Nat) (A2 : Option Addr) (c2 : Nat), k ≤ x.l.length ∧ i = .int .i64 k ∧ Hid (BA w g A0 x A c wr A2 c2 (L0 ++ be 2 (u64n x.i) ++ be 1 (u64n x.l.length) ++ (x.l.take k).flatMap bl) (true || (x.l.take k).any (fun s => !rightD s)) #[.int .i64 x.k, .int .u64 (x.s : Int), .int .u64 (x.e : Int), .int .u32 (x.q : Int), .int .u32 0, .int .i64 0, .int .i64 0, .int .i64 x.i, .int .i64 0, .string ⟨#[]⟩, .slice A x.l.length c])) (fun i _ => x.l.length - (intOf i).toNat)
            case atStart => exact ⟨0, _, _, Nat.zero_le _, rfl, Lib.hid (by rw [List.take_zero]; simp only [List.flatMap_nil, List.append_nil, List.any_nil, Bool.or_false]; exact HS.out)⟩
            case round =>
              obtain ⟨k, A2, c2, hk, rfl, HS⟩ := hrel
              by_cases hlt : k < x.l.length
              · have hrd := Hr.out.chg HS.out.chg (Hsep.out (by omega))
                obtain ⟨ad, rfl, d0⟩ := str_cell hrd hlt
                have HL2 := Lib.hid (show (x.l.take (k + 1)).flatMap bl = (x.l.take k).flatMap bl ++ bl x.l[k] ∧ (x.l.take (k + 1)).any (fun s => !rightD s) = ((x.l.take k).any (fun s => !rightD s) || !rightD x.l[k]) by
                  rw [List.take_succ_eq_append_getElem hlt, List.flatMap_append, List.any_append]; simp)
                have Hlen := Lib.hid (show (L0 ++ be 2 (u64n x.i) ++ be 1 (u64n x.l.length) ++ (x.l.take k).flatMap bl).length + x.l[k].size ≤ 140737488355328 by
                  have h1 := HBd.out
                  rw [HL.out] at h1
                  have h2 : ((x.l.take (k + 1)).flatMap bl).length ≤ (x.l.flatMap bl).length := flat_le x.l (k + 1)
                  rw [HL2.out.1] at h2
                  simp only [List.length_append, be_length, bl_length] at h1 h2 ⊢
                  omega)
                clear hrd
                generalize x.l[k] = s at d0 HL2 Hlen
                go_wp2_with fail
                refine (digRight_any s _).mono ?_
                rintro e w8 ⟨rfl, rfl⟩
                go_wp2_with fail
                refine (frText_any HS.out.wr s _ Hlen.out).mono ?_
                rintro e w8 ⟨rfl, hp⟩
                obtain ⟨A', c', h'⟩ := HS.out.step Hg.out HA.out hp
                rw [List.append_assoc, ← HL2.out.1, Bool.or_assoc, ← HL2.out.2] at h'
                have HS := Lib.hid h'
                clear hp h' d0
                go_wp2_with fail
                case roundEnd =>
                  exact ⟨⟨k + 1, A', c', by omega, by push_cast; rfl, HS⟩, by simp only [intOf]; omega⟩
              · obtain rfl : k = x.l.length := by omega
                have HS := Lib.hid (show BA w g A0 x A c wr A2 c2 (bodyL x) (bodyW x) _ from by rw [HL.out, HW.out, ← Hv0.out, HV.out]; have := HS.out; rw [List.take_length] at this; exact this)
                obtain ⟨p0, p1, p2, p3, p4, p5, p6, p7, p8, p9, p10⟩ := frCells HS.out.g0
                obtain ⟨g0, g1, h0, h1⟩ := cells2 HS.out.wr.cell
                obtain ⟨u0, u1, u2, u3, u4, u5, u6, u7, u8, u9, u10, hu⟩ := HS.out.g1
                obtain ⟨d0, d1, d2, d3, d4, d5, d6, d7, d8, d9, d10⟩ := cells11 HS.out.g2
                obtain ⟨s0, s1, s2, s3, s4, s5, s6, s7, s8, s9, s10⟩ := cells11 hu
                obtain ⟨t0, t1, t2, t3, t4, t5, t6, t7, t8, t9, t10⟩ := froz11 hu
                have Hu := Lib.hid hu
                clear hu p0 p1 p2 p3 p4 p5 p6 p7 p8 p9 p10 g0 g1 h0 h1
                go_wp2_with fail
                obtain ⟨z1, z2⟩ := set11 Hu.out (mk11 _ _ _ _ _ _ _ _ _ _ _) _ _ _ _ _ _ _ _ _ _ _
                exact bodyPost_ret (results_cell_row rfl _ _ (w.heap.size + 1) _ _ _ _ rfl z1 Try.underlying58 rfl (by kernel_rfl)) rfl ⟨by rw [HT.out.1, HT.out.2.1, HT.out.2.2]; rfl, by exact HS.out.fin Hg.out HA.out z2⟩
          · skip
            have hd : decide (4 < (x.l.length : Int)) = true := decide_eq_true (by omega)
            have HV := Lib.hid (show (false || decide (4 < x.l.length)) = true from by rw [decide_eq_true h4]; rfl)
            obtain ⟨A', c', h'⟩ := HS.out.step Hg.out HA.out (⟨_, _, HS.out.wr.setB true, (Chg.refl _ _).set g 1 _ (fun _ => .inl rfl), fun k hk => .inl hk⟩ : WPost w' g _ _ true (w'.setCell ⟨g, 1, none⟩ (.bool true)))
            have HS := Lib.hid h'
            clear h'
            go_wp2_with fail
            clear hd
            clear p0 p1 p2 p3 p4 p5 p6 p7 p8 p9 p10 g0 g1 h0 h1
            generalize w'.setCell ⟨g, 1, none⟩ _ = w7 at HS ⊢
            obtain ⟨p0, p1, p2, p3, p4, p5, p6, p7, p8, p9, p10⟩ := frCells HS.out.g0
            go_wp2_with fail
            clear p0 p1 p2 p3 p4 p5 p6 p7 p8 p9 p10
            go_loopw [114] (fun i wr => ∃ (k : Nat) (A2 : Option Addr) (c2 : Nat), k ≤ x.l.length ∧ i = .int .i64 k ∧ Hid (BA w g A0 x A c wr A2 c2 (L0 ++ be 2 (u64n x.i) ++ be 1 (u64n x.l.length) ++ (x.l.take k).flatMap bl) (true || (x.l.take k).any (fun s => !rightD s)) #[.int .i64 x.k, .int .u64 (x.s : Int), .int .u64 (x.e : Int), .int .u32 (x.q : Int), .int .u32 0, .int .i64 0, .int .i64 0, .int .i64 x.i, .int .i64 0, .string ⟨#[]⟩, .slice A x.l.length c])) (fun i _ => x.l.length - (intOf i).toNat)
            case atStart => exact ⟨0, _, _, Nat.zero_le _, rfl, Lib.hid (by rw [List.take_zero]; simp only [List.flatMap_nil, List.append_nil, List.any_nil, Bool.or_false]; exact HS.out)⟩
            case round =>
              obtain ⟨k, A2, c2, hk, rfl, HS⟩ := hrel
              by_cases hlt : k < x.l.length
              · have hrd := Hr.out.chg HS.out.chg (Hsep.out (by omega))
                obtain ⟨ad, rfl, d0⟩ := str_cell hrd hlt
                have HL2 := Lib.hid (show (x.l.take (k + 1)).flatMap bl = (x.l.take k).flatMap bl ++ bl x.l[k] ∧ (x.l.take (k + 1)).any (fun s => !rightD s) = ((x.l.take k).any (fun s => !rightD s) || !rightD x.l[k]) by
                  rw [List.take_succ_eq_append_getElem hlt, List.flatMap_append, List.any_append]; simp)
                have Hlen := Lib.hid (show (L0 ++ be 2 (u64n x.i) ++ be 1 (u64n x.l.length) ++ (x.l.take k).flatMap bl).length + x.l[k].size ≤ 140737488355328 by
                  have h1 := HBd.out
                  rw [HL.out] at h1
                  have h2 : ((x.l.take (k + 1)).flatMap bl).length ≤ (x.l.flatMap bl).length := flat_le x.l (k + 1)
                  rw [HL2.out.1] at h2
                  simp only [List.length_append, be_length, bl_length] at h1 h2 ⊢
                  omega)
                clear hrd
                generalize x.l[k] = s at d0 HL2 Hlen
                go_wp2_with fail
                refine (digRight_any s _).mono ?_
                rintro e w8 ⟨rfl, rfl⟩
                go_wp2_with fail
                refine (frText_any HS.out.wr s _ Hlen.out).mono ?_
                rintro e w8 ⟨rfl, hp⟩
                obtain ⟨A', c', h'⟩ := HS.out.step Hg.out HA.out hp
                rw [List.append_assoc, ← HL2.out.1, Bool.or_assoc, ← HL2.out.2] at h'
                have HS := Lib.hid h'
                clear hp h' d0
                go_wp2_with fail
                case roundEnd =>
                  exact ⟨⟨k + 1, A', c', by omega, by push_cast; rfl, HS⟩, by simp only [intOf]; omega⟩
              · obtain rfl : k = x.l.length := by omega
                have HS := Lib.hid (show BA w g A0 x A c wr A2 c2 (bodyL x) (bodyW x) _ from by rw [HL.out, HW.out, ← Hv0.out, HV.out]; have := HS.out; rw [List.take_length] at this; exact this)
                obtain ⟨p0, p1, p2, p3, p4, p5, p6, p7, p8, p9, p10⟩ := frCells HS.out.g0
                obtain ⟨g0, g1, h0, h1⟩ := cells2 HS.out.wr.cell
                obtain ⟨u0, u1, u2, u3, u4, u5, u6, u7, u8, u9, u10, hu⟩ := HS.out.g1
                obtain ⟨d0, d1, d2, d3, d4, d5, d6, d7, d8, d9, d10⟩ := cells11 HS.out.g2
                obtain ⟨s0, s1, s2, s3, s4, s5, s6, s7, s8, s9, s10⟩ := cells11 hu
                obtain ⟨t0, t1, t2, t3, t4, t5, t6, t7, t8, t9, t10⟩ := froz11 hu
                have Hu := Lib.hid hu
                clear hu p0 p1 p2 p3 p4 p5 p6 p7 p8 p9 p10 g0 g1 h0 h1
                go_wp2_with fail
                obtain ⟨z1, z2⟩ := set11 Hu.out (mk11 _ _ _ _ _ _ _ _ _ _ _) _ _ _ _ _ _ _ _ _ _ _
                exact bodyPost_ret (results_cell_row rfl _ _ (w.heap.size + 1) _ _ _ _ rfl z1 Try.underlying58 rfl (by kernel_rfl)) rfl ⟨by rw [HT.out.1, HT.out.2.1, HT.out.2.2]; rfl, by exact HS.out.fin Hg.out HA.out z2⟩
          · skip
            have hd : decide (4 < (x.l.length : Int)) = false := decide_eq_false (by omega)
            have HV := Lib.hid (show (false || decide (4 < x.l.length)) = false from by rw [decide_eq_false h4]; rfl)
            obtain ⟨A', c', h'⟩ := HS.out.step Hg.out HA.out (⟨_, _, HS.out.wr.setB false, (Chg.refl _ _).set g 1 _ (fun _ => .inl rfl), fun k hk => .inl hk⟩ : WPost w' g _ _ false (w'.setCell ⟨g, 1, none⟩ (.bool false)))
            have HS := Lib.hid h'
            clear h'
            go_wp2_with fail
            clear hd
            clear p0 p1 p2 p3 p4 p5 p6 p7 p8 p9 p10 g0 g1 h0 h1
            generalize w'.setCell ⟨g, 1, none⟩ _ = w7 at HS ⊢
            obtain ⟨p0, p1, p2, p3, p4, p5, p6, p7, p8, p9, p10⟩ := frCells HS.out.g0
            go_wp2_with fail
            clear p0 p1 p2 p3 p4 p5 p6 p7 p8 p9 p10
            go_loopw [114] (fun i wr => ∃ (k : Nat) (A2 : Option Addr) (c2 : Nat), k ≤ x.l.length ∧ i = .int .i64 k ∧ Hid (BA w g A0 x A c wr A2 c2 (L0 ++ be 2 (u64n x.i) ++ be 1 (u64n x.l.length) ++ (x.l.take k).flatMap bl) (false || (x.l.take k).any (fun s => !rightD s)) #[.int .i64 x.k, .int .u64 (x.s : Int), .int .u64 (x.e : Int), .int .u32 (x.q : Int), .int .u32 0, .int .i64 0, .int .i64 0, .int .i64 x.i, .int .i64 0, .string ⟨#[]⟩, .slice A x.l.length c])) (fun i _ => x.l.length - (intOf i).toNat)
            case atStart => exact ⟨0, _, _, Nat.zero_le _, rfl, Lib.hid (by rw [List.take_zero]; simp only [List.flatMap_nil, List.append_nil, List.any_nil, Bool.or_false]; exact HS.out)⟩
            case round =>
              obtain ⟨k, A2, c2, hk, rfl, HS⟩ := hrel
              by_cases hlt : k < x.l.length
              · have hrd := Hr.out.chg HS.out.chg (Hsep.out (by omega))
                obtain ⟨ad, rfl, d0⟩ := str_cell hrd hlt
                have HL2 := Lib.hid (show (x.l.take (k + 1)).flatMap bl = (x.l.take k).flatMap bl ++ bl x.l[k] ∧ (x.l.take (k + 1)).any (fun s => !rightD s) = ((x.l.take k).any (fun s => !rightD s) || !rightD x.l[k]) by
                  rw [List.take_succ_eq_append_getElem hlt, List.flatMap_append, List.any_append]; simp)
                have Hlen := Lib.hid (show (L0 ++ be 2 (u64n x.i) ++ be 1 (u64n x.l.length) ++ (x.l.take k).flatMap bl).length + x.l[k].size ≤ 140737488355328 by
                  have h1 := HBd.out
                  rw [HL.out] at h1
                  have h2 : ((x.l.take (k + 1)).flatMap bl).length ≤ (x.l.flatMap bl).length := flat_le x.l (k + 1)
                  rw [HL2.out.1] at h2
                  simp only [List.length_append, be_length, bl_length] at h1 h2 ⊢
                  omega)
                clear hrd
                generalize x.l[k] = s at d0 HL2 Hlen
                go_wp2_with fail
                refine (digRight_any s _).mono ?_
                rintro e w8 ⟨rfl, rfl⟩
                go_wp2_with fail
                refine (frText_any HS.out.wr s _ Hlen.out).mono ?_
                rintro e w8 ⟨rfl, hp⟩
                obtain ⟨A', c', h'⟩ := HS.out.step Hg.out HA.out hp
                rw [List.append_assoc, ← HL2.out.1, Bool.or_assoc, ← HL2.out.2] at h'
                have HS := Lib.hid h'
                clear hp h' d0
                go_wp2_with fail
                case roundEnd =>
                  exact ⟨⟨k + 1, A', c', by omega, by push_cast; rfl, HS⟩, by simp only [intOf]; omega⟩
              · obtain rfl : k = x.l.length := by omega
                have HS := Lib.hid (show BA w g A0 x A c wr A2 c2 (bodyL x) (bodyW x) _ from by rw [HL.out, HW.out, ← Hv0.out, HV.out]; have := HS.out; rw [List.take_length] at this; exact this)
                obtain ⟨p0, p1, p2, p3, p4, p5, p6, p7, p8, p9, p10⟩ := frCells HS.out.g0
                obtain ⟨g0, g1, h0, h1⟩ := cells2 HS.out.wr.cell
                obtain ⟨u0, u1, u2, u3, u4, u5, u6, u7, u8, u9, u10, hu⟩ := HS.out.g1
                obtain ⟨d0, d1, d2, d3, d4, d5, d6, d7, d8, d9, d10⟩ := cells11 HS.out.g2
                obtain ⟨s0, s1, s2, s3, s4, s5, s6, s7, s8, s9, s10⟩ := cells11 hu
                obtain ⟨t0, t1, t2, t3, t4, t5, t6, t7, t8, t9, t10⟩ := froz11 hu
                have Hu := Lib.hid hu
                clear hu p0 p1 p2 p3 p4 p5 p6 p7 p8 p9 p10 g0 g1 h0 h1
                go_wp2_with fail
                obtain ⟨z1, z2⟩ := set11 Hu.out (mk11 _ _ _ _ _ _ _ _ _ _ _) _ _ _ _ _ _ _ _ _ _ _
                exact bodyPost_ret (results_cell_row rfl _ _ (w.heap.size + 1) _ _ _ _ rfl z1 Try.underlying58 rfl (by kernel_rfl)) rfl ⟨by rw [HT.out.1, HT.out.2.1, HT.out.2.2]; rfl, by exact HS.out.fin Hg.out HA.out z2⟩
        · by_cases k6 : x.k = 6
          · skip
            have HL := Lib.hid (show bodyL x = L0 ++ be 2 (u64n x.i) ++ bl x.d from by unfold bodyL; rw [if_neg k1, if_neg k2, if_neg k3, if_neg k4, if_pos k6]; rw [HL0.out]; rfl)
            have HW := Lib.hid (show bodyW x = (false || numBad 2 x.i || !rightS x.d) from by unfold bodyW; rw [if_neg k1, if_neg k2, if_neg k3, if_neg k4, if_pos k6]; rfl)
            have HT := Lib.hid (show told x = ⟨x.k, x.s, x.e, x.q, 0, 0, 0, x.i, 0, x.d, []⟩ ∧ tA x A = none ∧ tC x c = 0 from ⟨by unfold told; rw [if_neg k1, if_neg k2, if_neg k3, if_neg k4, if_pos k6], by unfold tA; rw [if_neg (by omega)], by unfold tC; rw [if_neg (by omega)]⟩)
            have b1 : (x.k == 1) = false := by rw [beq_eq_false_iff_ne]; omega
            have b2 : (x.k == 2) = false := by rw [beq_eq_false_iff_ne]; omega
            have b3 : (x.k == 3) = false := by rw [beq_eq_false_iff_ne]; omega
            have b5 : (x.k == 5) = false := by rw [beq_eq_false_iff_ne]; omega
            have b4 : (x.k == 4) = false := by rw [beq_eq_false_iff_ne]; omega
            have b6 : (x.k == 6) = true := by rw [beq_iff_eq]; omega
            clear k1 k2 k3 k4 k6
            have HS := Lib.hid (HSt.out #[.int .i64 x.k, .int .u64 (x.s : Int), .int .u64 (x.e : Int), .int .u32 (x.q : Int), .int .u32 0, .int .i64 0, .int .i64 0, .int .i64 0, .int .i64 0, .string ⟨#[]⟩, .slice none 0 0])
            unfold Fr.cells at HS ⊢
            go_enter Try.func38, Try.ntmps38
            go_wp2_with fail

            generalize (((w.alloc (.cells #[.int .i64 x.k, .int .u64 (x.s : Int), .int .u64 (x.e : Int), .int .u32 (x.q : Int), .int .u32 (x.v : Int), .int .i64 x.n, .int .i64 x.f, .int .i64 x.i, .int .i64 x.c, .string x.d, .slice A x.l.length c] 58)).alloc (.cells #[.int .i64 0, .int .u64 0, .int .u64 0, .int .u32 0, .int .u32 0, .int .i64 0, .int .i64 0, .int .i64 0, .int .i64 0, .string ⟨#[]⟩, .slice none 0 0] 58)).alloc (.cells #[.int .i64 x.k, .int .u64 (x.s : Int), .int .u64 (x.e : Int), .int .u32 (x.q : Int), .int .u32 0, .int .i64 0, .int .i64 0, .int .i64 0, .int .i64 0, .string ⟨#[]⟩, .slice none 0 0] 58)) = w3 at HS ⊢
            have d7 := (cell_at HS.out.g2 7 rfl).1
            have f7 := (cell_at HS.out.g2 7 rfl).2
            have d9 := (cell_at HS.out.g2 9 rfl).1
            have f9 := (cell_at HS.out.g2 9 rfl).2

            have HS := Lib.hid (HS.out.below (w2 := w3.drew) ((Below.refl w3.heap.size w3).drew))
            obtain ⟨p0, p1, p2, p3, p4, p5, p6, p7, p8, p9, p10⟩ := frCells HS.out.g0
            have q7 := fun w' (hk : KeepQ (fun i => i = w.heap.size + 1 + 1) w3.drew w') => hk.cell (p := ⟨w.heap.size, 7, none⟩) p7 (by show ¬ (w.heap.size = w.heap.size + 1 + 1); omega)
            have q9 := fun w' (hk : KeepQ (fun i => i = w.heap.size + 1 + 1) w3.drew w') => hk.cell (p := ⟨w.heap.size, 9, none⟩) p9 (by show ¬ (w.heap.size = w.heap.size + 1 + 1); omega)
            clear p0 p1 p2 p3 p4 p5 p6 p7 p8 p9 p10
            refine wp_region_mix3 (KeepQ (fun i => i = w.heap.size + 1 + 1)) (KeepQ.refl (fun i => i = w.heap.size + 1 + 1)) (KeepQ.trans (fun i => i = w.heap.size + 1 + 1)) [] [(0, 0), (0, 2), (1, 1), (1, 3), (0, 4), (2, 5), (0, 6), (2, 7)] (by kernel_rfl) (by kernel_rfl) (fun d _ _ _ _ h => by cases d <;> exact h) ?_
            repeat ((first | (refine mix3_free (v := ?_) rfl rfl ?_ (mix3_norm (a' := ?_) ?_ ?_); rotate_left; focus (intro w'; go_simp; first | done | (with_reducible rfl))) | (refine mix3_pure (v := ?_) rfl rfl ?_ (mix3_norm (a' := ?_) ?_ ?_); rotate_left; focus (intro w' hR; go_simp; first | done | (with_reducible rfl))) | refine mix3_freeOff rfl rfl (mix3_norm (a' := ?_) ?_ ?_) | refine mix3_off rfl rfl (mix3_norm (a' := ?_) ?_ ?_)); rotate_left; focus (simp only [Act.put, List.getElem_toArray, List.getElem_cons_zero, List.getElem_cons_succ, List.setIfInBounds_toArray, List.set_cons_zero, List.set_cons_succ]; rfl))
            clear q7 q9
            refine mix3_eff rfl ?_
            simp only [List.getElem_toArray, List.getElem_cons_zero, List.getElem_cons_succ]
            go_wp2_with fail
            refine mixQ3_normal (KeepQ.of_chg ((Chg.refl (fun i => i = w.heap.size + 1 + 1) _).set (w.heap.size + 1 + 1) 7 _ (fun _ => rfl)) (fun _ _ h => h)) rfl ?_
            repeat ((first | (refine mix3_free (v := ?_) rfl rfl ?_ (mix3_norm (a' := ?_) ?_ ?_); rotate_left; focus (intro w'; go_simp; first | done | (with_reducible rfl))) | (refine mix3_pure (v := ?_) rfl rfl ?_ (mix3_norm (a' := ?_) ?_ ?_); rotate_left; focus (intro w' hR; go_simp; first | done | (with_reducible rfl))) | refine mix3_freeOff rfl rfl (mix3_norm (a' := ?_) ?_ ?_) | refine mix3_off rfl rfl (mix3_norm (a' := ?_) ?_ ?_)); rotate_left; focus (simp only [Act.put, List.getElem_toArray, List.getElem_cons_zero, List.getElem_cons_succ, List.setIfInBounds_toArray, List.set_cons_zero, List.set_cons_succ]; rfl))
            refine mix3_eff rfl ?_
            simp only [List.getElem_toArray, List.getElem_cons_zero, List.getElem_cons_succ]
            go_wp2_with fail
            refine mixQ3_normal (KeepQ.of_chg ((Chg.refl (fun i => i = w.heap.size + 1 + 1) _).set (w.heap.size + 1 + 1) 9 _ (fun _ => rfl)) (fun _ _ h => h)) rfl ?_
            refine mix3_done ?_
            clear d7 f7 d9 f9
            have HS := Lib.hid (show BA w g A0 x A c (((w3.setCell ⟨w.heap.size + 1 + 1, 7, none⟩ (.int .i64 x.i)).setCell ⟨w.heap.size + 1 + 1, 9, none⟩ (.string x.d)).drew) _ _ _ _ _ from ((HS.out.set Hg.out HA.out 7 (.int .i64 x.i)).set Hg.out HA.out 9 (.string x.d)))
            simp only [List.setIfInBounds_toArray, List.set_cons_zero, List.set_cons_succ] at HS
            generalize ((w3.setCell ⟨w.heap.size + 1 + 1, 7, none⟩ (.int .i64 x.i)).setCell ⟨w.heap.size + 1 + 1, 9, none⟩ (.string x.d)).drew = w4 at HS ⊢
            obtain ⟨p0, p1, p2, p3, p4, p5, p6, p7, p8, p9, p10⟩ := frCells HS.out.g0
            obtain ⟨g0, g1, h0, h1⟩ := cells2 HS.out.wr.cell
            go_wp2_with fail
            refine (frNum2_any HS.out.wr x.i (by rw [HL0.out]; decide)).mono ?_
            rintro e w' ⟨rfl, hp⟩
            obtain ⟨A', c', h'⟩ := HS.out.step Hg.out HA.out hp
            have HS := Lib.hid h'
            clear hp h' p0 p1 p2 p3 p4 p5 p6 p7 p8 p9 p10 g0 g1 h0 h1
            obtain ⟨p0, p1, p2, p3, p4, p5, p6, p7, p8, p9, p10⟩ := frCells HS.out.g0
            obtain ⟨g0, g1, h0, h1⟩ := cells2 HS.out.wr.cell
            go_wp2_with fail
            have HSd := Lib.hid (HS.out.below (w2 := w'.drew) ((Below.refl w'.heap.size w').drew))
            have q9 := fun w'' (hk : KeepsBut [] w'.drew w'') => hk.cell (p := ⟨w.heap.size, 9, none⟩) p9 (by simp)
            clear p0 p1 p2 p3 p4 p5 p6 p7 p8 p9 p10 g0 g1 h0 h1
            refine wp_region_mix3 (KeepsBut []) (KeepsBut.refl []) (KeepsBut.trans []) [6] [(0, 0), (0, 1), (0, 3), (1, 2), (1, 4), (2, 5), (2, 6)] (by kernel_rfl) (by kernel_rfl) (fun d _ _ _ _ h => by cases d <;> exact h) ?_
            repeat ((first | (refine mix3_free (v := ?_) rfl rfl ?_ (mix3_norm (a' := ?_) ?_ ?_); rotate_left; focus (intro w'; go_simp; first | done | (with_reducible rfl))) | (refine mix3_pure (v := ?_) rfl rfl ?_ (mix3_norm (a' := ?_) ?_ ?_); rotate_left; focus (intro w' hR; go_simp; first | done | (with_reducible rfl))) | refine mix3_freeOff rfl rfl (mix3_norm (a' := ?_) ?_ ?_) | refine mix3_off rfl rfl (mix3_norm (a' := ?_) ?_ ?_)); rotate_left; focus (simp only [Act.put, List.getElem_toArray, List.getElem_cons_zero, List.getElem_cons_succ, List.setIfInBounds_toArray, List.set_cons_zero, List.set_cons_succ]; rfl))
            clear q9
            refine mix3_eff rfl ?_
            simp only [List.getElem_toArray, List.getElem_cons_zero, List.getElem_cons_succ]
            go_wp2_with fail
            refine (secRight_any x.d _).mono ?_
            rintro e w'' ⟨rfl, rfl⟩
            go_wp2_with fail
            refine mixQ3_normal (KeepsBut.refl [] _) rfl ?_
            refine mix3_eff rfl ?_
            simp only [List.getElem_toArray, List.getElem_cons_zero, List.getElem_cons_succ]
            go_wp2_with fail
            refine (frText_any HSd.out.wr x.d _ (by have h1 := HBd.out; rw [HL.out] at h1; simp only [List.length_append, be_length, bl_length] at h1 ⊢; omega)).mono ?_
            rintro e w'' ⟨rfl, hp⟩
            obtain ⟨A', c', h'⟩ := HSd.out.step Hg.out HA.out hp
            have HS := Lib.hid h'
            clear hp h' HSd
            go_wp2_with fail
            refine mixQ3_last (by simp) rfl ?_
            refine mix3_done ?_
            obtain ⟨p0, p1, p2, p3, p4, p5, p6, p7, p8, p9, p10⟩ := frCells HS.out.g0
            obtain ⟨g0, g1, h0, h1⟩ := cells2 HS.out.wr.cell
            obtain ⟨u0, u1, u2, u3, u4, u5, u6, u7, u8, u9, u10, hu⟩ := HS.out.g1
            obtain ⟨d0, d1, d2, d3, d4, d5, d6, d7, d8, d9, d10⟩ := cells11 HS.out.g2
            obtain ⟨s0, s1, s2, s3, s4, s5, s6, s7, s8, s9, s10⟩ := cells11 hu
            obtain ⟨t0, t1, t2, t3, t4, t5, t6, t7, t8, t9, t10⟩ := froz11 hu
            have Hu := Lib.hid hu
            clear hu p0 p1 p2 p3 p4 p5 p6 p7 p8 p9 p10 g0 g1 h0 h1
            go_wp2_with fail
            obtain ⟨z1, z2⟩ := set11 Hu.out (mk11 _ _ _ _ _ _ _ _ _ _ _) _ _ _ _ _ _ _ _ _ _ _
            exact bodyPost_ret (results_cell_row rfl _ _ (w.heap.size + 1) _ _ _ _ rfl z1 Try.underlying58 rfl (by kernel_rfl)) rfl ⟨by rw [HT.out.1, HT.out.2.1, HT.out.2.2]; rfl, by rw [HL.out, HW.out]; exact HS.out.fin Hg.out HA.out z2⟩
          · by_cases k7 : x.k = 7
            · skip
              have HL := Lib.hid (show bodyL x = L0 from by unfold bodyL; rw [if_neg k1, if_neg k2, if_neg k3, if_neg k4, if_neg k6]; rw [HL0.out])
              have HW := Lib.hid (show bodyW x = false from by unfold bodyW; rw [if_neg k1, if_neg k2, if_neg k3, if_neg k4, if_neg k6]; exact decide_eq_false (fun h => h k7))
              have HT := Lib.hid (show told x = ⟨x.k, x.s, x.e, x.q, 0, 0, 0, 0, 0, ⟨#[]⟩, []⟩ ∧ tA x A = none ∧ tC x c = 0 from ⟨by unfold told; rw [if_neg k1, if_neg k2, if_neg k3, if_neg k4, if_neg k6], by unfold tA; rw [if_neg (by omega)], by unfold tC; rw [if_neg (by omega)]⟩)
              have b1 : (x.k == 1) = false := by rw [beq_eq_false_iff_ne]; omega
              have b2 : (x.k == 2) = false := by rw [beq_eq_false_iff_ne]; omega
              have b3 : (x.k == 3) = false := by rw [beq_eq_false_iff_ne]; omega
              have b5 : (x.k == 5) = false := by rw [beq_eq_false_iff_ne]; omega
              have b4 : (x.k == 4) = false := by rw [beq_eq_false_iff_ne]; omega
              have b6 : (x.k == 6) = false := by rw [beq_eq_false_iff_ne]; omega
              have b7 : (x.k == 7) = true := by rw [beq_iff_eq]; omega
              clear k1 k2 k3 k4 k6 k7
              have HS := Lib.hid (HSt.out #[.int .i64 x.k, .int .u64 (x.s : Int), .int .u64 (x.e : Int), .int .u32 (x.q : Int), .int .u32 0, .int .i64 0, .int .i64 0, .int .i64 0, .int .i64 0, .string ⟨#[]⟩, .slice none 0 0])
              unfold Fr.cells at HS ⊢
              go_enter Try.func38, Try.ntmps38
              go_wp2_with fail

              obtain ⟨hb, _, hg1, _, _⟩ := alloc3 w (x.cells A c) 58 #[.int .i64 x.k, .int .u64 (x.s : Int), .int .u64 (x.e : Int), .int .u32 (x.q : Int), .int .u32 0, .int .i64 0, .int .i64 0, .int .i64 0, .int .i64 0, .string ⟨#[]⟩, .slice none 0 0] 58 #[.int .i64 x.k, .int .u64 (x.s : Int), .int .u64 (x.e : Int), .int .u32 (x.q : Int), .int .u32 0, .int .i64 0, .int .i64 0, .int .i64 0, .int .i64 0, .string ⟨#[]⟩, .slice none 0 0] 58
              exact bodyPost_ret (results_cell_row rfl _ _ (w.heap.size + 1) _ _ _ _ rfl hg1 Try.underlying58 rfl (by kernel_rfl)) rfl ⟨by rw [HT.out.1, HT.out.2.1, HT.out.2.2]; rfl, by rw [HL.out, HW.out]; exact ⟨A0, c0, Hw.out.below hb, .of_below hb, fun k hk => .inl hk⟩⟩
            · skip
              have HL := Lib.hid (show bodyL x = L0 from by unfold bodyL; rw [if_neg k1, if_neg k2, if_neg k3, if_neg k4, if_neg k6]; rw [HL0.out])
              have HW := Lib.hid (show bodyW x = true from by unfold bodyW; rw [if_neg k1, if_neg k2, if_neg k3, if_neg k4, if_neg k6]; exact decide_eq_true k7)
              have HT := Lib.hid (show told x = ⟨x.k, x.s, x.e, x.q, 0, 0, 0, 0, 0, ⟨#[]⟩, []⟩ ∧ tA x A = none ∧ tC x c = 0 from ⟨by unfold told; rw [if_neg k1, if_neg k2, if_neg k3, if_neg k4, if_neg k6], by unfold tA; rw [if_neg (by omega)], by unfold tC; rw [if_neg (by omega)]⟩)
              have b1 : (x.k == 1) = false := by rw [beq_eq_false_iff_ne]; omega
              have b2 : (x.k == 2) = false := by rw [beq_eq_false_iff_ne]; omega
              have b3 : (x.k == 3) = false := by rw [beq_eq_false_iff_ne]; omega
              have b5 : (x.k == 5) = false := by rw [beq_eq_false_iff_ne]; omega
              have b4 : (x.k == 4) = false := by rw [beq_eq_false_iff_ne]; omega
              have b6 : (x.k == 6) = false := by rw [beq_eq_false_iff_ne]; omega
              have b7 : (x.k == 7) = false := by rw [beq_eq_false_iff_ne]; omega
              clear k1 k2 k3 k4 k6 k7
              have HS := Lib.hid (HSt.out #[.int .i64 x.k, .int .u64 (x.s : Int), .int .u64 (x.e : Int), .int .u32 (x.q : Int), .int .u32 0, .int .i64 0, .int .i64 0, .int .i64 0, .int .i64 0, .string ⟨#[]⟩, .slice none 0 0])
              unfold Fr.cells at HS ⊢
              obtain ⟨g0, g1, h0, h1⟩ := cells2 HS.out.wr.cell
              obtain ⟨d0, d1, d2, d3, d4, d5, d6, d7, d8, d9, d10⟩ := cells11 HS.out.g2
              obtain ⟨v0, v1, v2, v3, v4, v5, v6, v7, v8, v9, v10, hv⟩ := HS.out.g1
              obtain ⟨s0, s1, s2, s3, s4, s5, s6, s7, s8, s9, s10⟩ := cells11 hv
              obtain ⟨t0, t1, t2, t3, t4, t5, t6, t7, t8, t9, t10⟩ := froz11 hv
              clear hv
              have hgl := Hg.out
              have n0 : ¬ g = w.heap.size := by omega
              have n1 : ¬ g = w.heap.size + 1 := by omega
              have n2 : ¬ g = w.heap.size + 1 + 1 := by omega
              have n3 : ¬ w.heap.size = g := by omega
              have n4 : ¬ w.heap.size + 1 = g := by omega
              have n5 : ¬ w.heap.size + 1 + 1 = g := by omega
              go_enter Try.func38, Try.ntmps38
              go_wp2_with fail

              obtain ⟨A', c', h'⟩ := HS.out.step Hg.out HA.out (⟨_, _, HS.out.wr.setB true, (Chg.refl _ _).set g 1 _ (fun _ => .inl rfl), fun k hk => .inl hk⟩ : WPost _ g _ _ true _)
              obtain ⟨u0, u1, u2, u3, u4, u5, u6, u7, u8, u9, u10, hu⟩ := h'.g1
              obtain ⟨z1, z2⟩ := set11 hu (mk11 _ _ _ _ _ _ _ _ _ _ _) (.int .i64 x.k) (.int .u64 (x.s : Int)) (.int .u64 (x.e : Int)) (.int .u32 (x.q : Int)) (.int .u32 0) (.int .i64 0) (.int .i64 0) (.int .i64 0) (.int .i64 0) (.string ⟨#[]⟩) (.slice none 0 0)
              exact bodyPost_ret (results_cell_row rfl _ _ (w.heap.size + 1) _ _ _ _ rfl z1 Try.underlying58 rfl (by kernel_rfl)) rfl ⟨by rw [HT.out.1, HT.out.2.1, HT.out.2.2]; rfl, by rw [HL.out, HW.out]; exact h'.fin Hg.out HA.out z2⟩
end Go.Proofs.Ytebcginnnjigjaa

end
section
/- Frames as bytes. -/
open Go.RowKit
namespace Go.Proofs.Ytebcginnnjigjaa

def headL (x : Fr) : List UInt8 := be 1 (u64n x.k) ++ be 8 x.s ++ be 8 x.e ++ be 4 x.q ++ be 2 (u64n (bodyL x).length)
def putOk (x : Fr) : Bool := !bodyW x && alikeB x (told x)
def putE (x : Fr) : Nat := if putOk x = true then 0 else 6
def putL (x : Fr) : List UInt8 := if putOk x = true then headL x ++ bodyL x ++ be 4 (crcAdd 0 (headL x ++ bodyL x)) else []
/-- A fresh row of bytes that a function returns. -/
def ByteOut (w w' : World) (A : Option Addr) (c : Nat) (l : List UInt8) : Prop := BRow w' A c l ∧ (∀ k, blk A = some k → w.heap.size ≤ k) ∧ Below w.heap.size w w'
theorem ByteOut.nil {w w' : World} (hb : Below w.heap.size w w') : ByteOut w w' none 0 [] := ⟨BRow.nil _, by simp [blk], hb⟩
theorem ByteOut.keep {w w' w2 : World} {A : Option Addr} {c : Nat} {l : List UInt8} (h : ByteOut w w' A c l) (hb : Below w'.heap.size w' w2) : ByteOut w w2 A c l := ⟨h.1.below hb, h.2.1, h.2.2.trans (hb.mono h.2.2.size)⟩
theorem ByteOut.next {w w' w2 : World} {A : Option Addr} {c : Nat} {l : List UInt8} (hb : Below w.heap.size w w') (ho : OwnB w2 w'.heap.size A c l) (hb2 : Below w'.heap.size w' w2) : ByteOut w w2 A c l := by
  obtain ⟨hr, hge⟩ := BRow.of_own ho
  exact ⟨hr, fun k hk => Nat.le_trans hb.size (hge k hk), hb.trans (hb2.mono hb.size)⟩
theorem told_l (x : Fr) : (told x).l = if x.k = 4 then x.l else [] := by
  unfold told
  by_cases k1 : x.k = 1
  · rw [if_pos k1, if_neg (by omega)]
  · rw [if_neg k1]
    by_cases k2 : x.k = 2
    · rw [if_pos k2, if_neg (by omega)]
    · rw [if_neg k2]
      by_cases k3 : x.k = 3 ∨ x.k = 5
      · rw [if_pos k3, if_neg (by omega)]
      · rw [if_neg k3]
        by_cases k4 : x.k = 4
        · rw [if_pos k4, if_pos k4]
        · rw [if_neg k4, if_neg k4]
          by_cases k6 : x.k = 6
          · rw [if_pos k6]
          · rw [if_neg k6]
theorem told_reads {w : World} {x : Fr} {A : Option Addr} (h : Reads w 1 A x.l.length (sts x.l)) : Reads w 1 (tA x A) (told x).l.length (sts (told x).l) := by
  rw [told_l]
  unfold tA
  by_cases k4 : x.k = 4
  · rw [if_pos k4, if_pos k4]; exact h
  · rw [if_neg k4, if_neg k4]; exact Reads.nil _ _ _

theorem append_bbn {w : World} {ops : Array Oper} {rest : List Oper} {o : Oper} {a : Act} {Q : Exit → Act → World → Prop} (hgd : o.guard = none) (s x : Operand)
    (ho : o.op = .call { callee := .builtin .append, args := #[s, x], argTypes := #[61, 61] })
    (A : Option Addr) (c : Nat) (l : List UInt8) (hs : a.eval s = .slice A l.length c) (hrow : BRow w A c l) (A' : Option Addr) (c' : Nat) (m : List UInt8) (hx : a.eval x = .slice A' m.length c') (hr : Reads w 1 A' m.length (bv m)) (hlen : l.length + m.length ≤ 140737488355328)
    (n : List UInt8) (hn : n = l ++ m)
    (h : ∀ A1 c1 w1, BRow w1 A1 c1 n → Chg (fun i => blk A = some i) w w1 → (∀ k, blk A1 = some k → blk A = some k ∨ k = w.heap.size) → wpList Try.prog ops Q rest (a.put o.dst (.slice A1 n.length c1)) w1) : wpList Try.prog ops Q (o :: rest) a w := by
  subst hn
  exact wpList_append_bb hgd s x ho A c l hs hrow A' c' m hx hr hlen h
/-- In the midst of a frame's bytes: the frame's block and the writer. -/
structure PS (w : World) (x : Fr) (A : Option Addr) (c : Nat) (A3 : Option Addr) (c3 : Nat) (w' : World) : Prop where
  b : Below w.heap.size w w'
  g0 : w'.heap[w.heap.size]? = some (.cells (x.cells A c) 58 (0, 0))
  wr : IsW w' (w.heap.size + 1) A3 c3 (bodyL x) (bodyW x)
theorem PS.below {w w1 w2 : World} {x : Fr} {A : Option Addr} {c : Nat} {A3 : Option Addr} {c3 : Nat} (h : PS w x A c A3 c3 w1) (hb : Below w1.heap.size w1 w2) : PS w x A c A3 c3 w2 :=
  ⟨h.b.trans (hb.mono h.b.size), (hb.block _ (Array.getElem?_eq_some_iff.1 h.g0).1).trans h.g0, h.wr.below hb⟩
theorem PS.sz {w w1 : World} {x : Fr} {A : Option Addr} {c : Nat} {A3 : Option Addr} {c3 : Nat} (h : PS w x A c A3 c3 w1) : w.heap.size + 1 < w1.heap.size := h.wr.lt
set_option maxHeartbeats 4000000 in
set_option maxRecDepth 100000 in
theorem framePut_any (w : World) (x : Fr) (A : Option Addr) (c : Nat) (hr : Reads w 1 A x.l.length (sts x.l)) (hB : (bodyL x).length ≤ 100000000) (hl : x.l.length ≤ 2000000) (hok : FrOk x) :
    Calls Try.prog 23 #[.agg (x.cells A c)] w fun e w' => ∃ A1 c1, e = .returned (.tuple #[.slice A1 (putL x).length c1, .int .i64 (putE x : Nat)]) ∧ ByteOut w w' A1 c1 (putL x) := by
  obtain ⟨hb2, hg0, hg1, hsz⟩ := alloc2 w (x.cells A c) 58 #[.slice none 0 0, .bool false] 93
  have hW : IsW ((w.alloc (.cells (x.cells A c) 58)).alloc (.cells #[.slice none 0 0, .bool false] 93)) (w.heap.size + 1) none 0 [] false := ⟨hg1, BRow.nil _, by simp [blk]⟩
  have HBo := Lib.hid (frBody_any hW x A c (hr.below hb2) hB hl hok (fun h0 k hk hf => by
    obtain ⟨ad, rfl, hc⟩ := str_cell hr h0
    have h1 := World.block_lt_of_cell? _ _ hc
    rw [block_of_add] at h1
    have h2 : ad.block = k := Option.some.inj hk
    rcases hf with hf | hf
    · omega
    · cases hf))
  have Hr := Lib.hid hr
  have Hok := Lib.hid hok
  have H2 := Lib.hid (And.intro hb2 (And.intro hg0 (And.intro hsz hW)))
  clear hr hok hb2 hg0 hg1 hsz hW
  have HL := Lib.hid hl
  have HBd := Lib.hid hB
  have htr := fun w' h => told_reads (w := w') (A := A) (x := x) h
  obtain ⟨y, hy⟩ : ∃ y, told x = y := ⟨_, rfl⟩
  rw [hy] at HBo
  simp only [hy] at htr
  have Htr := Lib.hid htr
  have Hy := Lib.hid hy
  clear hl hB htr hy
  obtain ⟨A2, hA2⟩ : ∃ A2, tA x A = A2 := ⟨_, rfl⟩
  obtain ⟨c2, hc2⟩ : ∃ c2, tC x c = c2 := ⟨_, rfl⟩
  rw [hA2, hc2] at HBo
  rw [hA2] at Htr
  clear hA2 hc2
  unfold Fr.cells
  unfold Fr.cells at HBo H2
  go_enter Try.func23, Try.ntmps23
  go_wp2_with fail
  refine HBo.out.mono ?_
  rintro e w3 ⟨rfl, A3, c3, hW3, hC3, hk3⟩
  obtain ⟨hb2, hg0, hsz, hW⟩ := H2.out
  have hb3 : Below w.heap.size w w3 := hb2.trans (hC3.below (fun i hi hf => by
    rcases hf with hf | hf
    · omega
    · cases hf) (by omega))
  have hg3 : w3.heap[w.heap.size]? = _ := (hC3.block w.heap.size (by omega) (fun hf => by
    rcases hf with hf | hf
    · omega
    · cases hf)).trans hg0
  have HP3 := Lib.hid (show PS w x A c A3 c3 w3 from ⟨hb3, hg3, hW3⟩)
  clear hW3 hC3 hk3 hb2 hg0 hsz hW hb3 hg3
  have HP := HP3
  obtain ⟨p0, p1, p2, p3, p4, p5, p6, p7, p8, p9, p10⟩ := frCells HP.out.g0
  obtain ⟨g0, g1, h0, h1⟩ := cells2 HP.out.wr.cell
  have hsz := HP.out.sz
  have hsz0 := Nat.lt_of_succ_lt hsz

  cases hbw : bodyW x with
  | true =>
    have HE := Lib.hid (show putL x = [] ∧ putE x = 6 from ⟨by unfold putL putOk; rw [hbw]; rfl, by unfold putE putOk; rw [hbw]; rfl⟩)
    rw [hbw] at g1
    clear hbw
    go_wp2_with fail
    go_ret2
    exact ⟨none, 0, by rw [HE.out.1, HE.out.2]; rfl, by rw [HE.out.1]; exact ByteOut.nil (HP.out.b.trans ((alloc1 w3 _ _).1.mono HP.out.b.size))⟩
  | false =>
    have Hbw := Lib.hid hbw
    rw [hbw] at g1
    clear hbw
    have h4b := (alloc1 w3 (y.cells A2 c2) 58).1
    have HP4 := Lib.hid (HP.out.below h4b)
    have HAl := Lib.hid (frameAlike_any x y A A2 c c2 (w3.alloc (.cells (y.cells A2 c2) 58)) (Hr.out.below HP4.out.b) (Htr.out _ (Hr.out.below HP4.out.b)) HL.out)
    clear h4b
    unfold Fr.cells at HAl
    go_wp2_with fail
    refine HAl.out.mono ?_
    rintro e w5 ⟨rfl, hb5⟩
    have HP := Lib.hid (HP4.out.below hb5)
    clear hb5 p0 p1 p2 p3 p4 p5 p6 p7 p8 p9 p10 g0 g1 h0 h1 hsz hsz0
    obtain ⟨p0, p1, p2, p3, p4, p5, p6, p7, p8, p9, p10⟩ := frCells HP.out.g0
    obtain ⟨g0, g1, h0, h1⟩ := cells2 HP.out.wr.cell
    have hsz := HP.out.sz
    have hsz0 := Nat.lt_of_succ_lt hsz
  
    cases hal : alikeB x y with
    | false =>
      have HE := Lib.hid (show putL x = [] ∧ putE x = 6 from ⟨by unfold putL putOk; rw [Hbw.out, Hy.out, hal]; rfl, by unfold putE putOk; rw [Hbw.out, Hy.out, hal]; rfl⟩)
      clear hal
      go_wp2_with fail
      go_ret2
      exact ⟨none, 0, by rw [HE.out.1, HE.out.2]; rfl, by rw [HE.out.1]; exact ByteOut.nil HP.out.b⟩
    | true =>
      have HE := Lib.hid (show putL x = headL x ++ bodyL x ++ be 4 (crcAdd 0 (headL x ++ bodyL x)) ∧ putE x = 0 from ⟨by unfold putL putOk; rw [Hbw.out, Hy.out, hal]; rfl, by unfold putE putOk; rw [Hbw.out, Hy.out, hal]; rfl⟩)
      clear hal
      have wk := u64n_wrap x.k
      have wq := wrap64_nat Hok.out.q64
      have wl := u64n_wrap ((bodyL x).length : Int)
      obtain ⟨L0, hL0⟩ : ∃ L0 : List UInt8, L0 = [] := ⟨_, rfl⟩
      have HL0 := Lib.hid hL0
      have HO := Lib.hid (show ByteOut w w5 none 0 L0 by rw [hL0]; exact ByteOut.nil HP.out.b)
      clear hL0
      have HQ := Lib.hid (put_any none [] 0 1 (u64n x.k) (u64n_lt x.k) w5 (Reads.nil _ _ _) (by decide))
      go_wp2_with fail
      refine HQ.out.mono ?_
      rintro e w6 ⟨A6, c6, rfl, ho, hb⟩
      rw [wPut_ok (wOk_true (by omega) (by omega)), show Int.toNat 1 = 1 from rfl] at ho ⊢
      obtain ⟨L6, hL⟩ : ∃ l, l = ([] : List UInt8) ++ be 1 (u64n x.k) := ⟨_, rfl⟩
      rw [← hL] at ho ⊢
      have HL6 := Lib.hid hL
      have HN6 := Lib.hid (show L6.length = 1 by rw [hL, List.length_append, be_length]; rfl)
      have HO := Lib.hid (ByteOut.next HP.out.b ho hb)
      have HP := Lib.hid (HP.out.below hb)
      clear ho hb HQ hL p0 p1 p2 p3 p4 p5 p6 p7 p8 p9 p10 g0 g1 h0 h1 hsz hsz0
      obtain ⟨p0, p1, p2, p3, p4, p5, p6, p7, p8, p9, p10⟩ := frCells HP.out.g0
      obtain ⟨g0, g1, h0, h1⟩ := cells2 HP.out.wr.cell
      have hsz := HP.out.sz
      have hsz0 := Nat.lt_of_succ_lt hsz
      have ok := Hok.out
      have HQ := Lib.hid (put_any A6 L6 c6 8 x.s ok.1 w6 HO.out.1.reads (by rw [HN6.out]; decide))
      go_wp2_with fail
      refine HQ.out.mono ?_
      rintro e w7 ⟨A7, c7, rfl, ho, hb⟩
      rw [wPut_ok (wOk_true (by omega) (by omega)), show Int.toNat 8 = 8 from rfl] at ho ⊢
      obtain ⟨L7, hL⟩ : ∃ l, l = L6 ++ be 8 x.s := ⟨_, rfl⟩
      rw [← hL] at ho ⊢
      have HL7 := Lib.hid hL
      have HN7 := Lib.hid (show L7.length = 9 by rw [hL, List.length_append, be_length, HN6.out])
      have HO := Lib.hid (ByteOut.next HP.out.b ho hb)
      have HP := Lib.hid (HP.out.below hb)
      clear ho hb HQ hL p0 p1 p2 p3 p4 p5 p6 p7 p8 p9 p10 g0 g1 h0 h1 hsz hsz0
      obtain ⟨p0, p1, p2, p3, p4, p5, p6, p7, p8, p9, p10⟩ := frCells HP.out.g0
      obtain ⟨g0, g1, h0, h1⟩ := cells2 HP.out.wr.cell
      have hsz := HP.out.sz
      have hsz0 := Nat.lt_of_succ_lt hsz
      have HQ := Lib.hid (put_any A7 L7 c7 8 x.e ok.2.1 w7 HO.out.1.reads (by rw [HN7.out]; decide))
      go_wp2_with fail
      refine HQ.out.mono ?_
      rintro e w8 ⟨A8, c8, rfl, ho, hb⟩
      rw [wPut_ok (wOk_true (by omega) (by omega)), show Int.toNat 8 = 8 from rfl] at ho ⊢
      obtain ⟨L8, hL⟩ : ∃ l, l = L7 ++ be 8 x.e := ⟨_, rfl⟩
      rw [← hL] at ho ⊢
      have HL8 := Lib.hid hL
      have HN8 := Lib.hid (show L8.length = 17 by rw [hL, List.length_append, be_length, HN7.out])
      have HO := Lib.hid (ByteOut.next HP.out.b ho hb)
      have HP := Lib.hid (HP.out.below hb)
      clear ho hb HQ hL p0 p1 p2 p3 p4 p5 p6 p7 p8 p9 p10 g0 g1 h0 h1 hsz hsz0
      obtain ⟨p0, p1, p2, p3, p4, p5, p6, p7, p8, p9, p10⟩ := frCells HP.out.g0
      obtain ⟨g0, g1, h0, h1⟩ := cells2 HP.out.wr.cell
      have hsz := HP.out.sz
      have hsz0 := Nat.lt_of_succ_lt hsz
      have HQ := Lib.hid (put_any A8 L8 c8 4 x.q Hok.out.q64 w8 HO.out.1.reads (by rw [HN8.out]; decide))
      go_wp2_with fail
      refine HQ.out.mono ?_
      rintro e w9 ⟨A9, c9, rfl, ho, hb⟩
      rw [wPut_ok (wOk_true (by omega) (by omega)), show Int.toNat 4 = 4 from rfl] at ho ⊢
      obtain ⟨L9, hL⟩ : ∃ l, l = L8 ++ be 4 x.q := ⟨_, rfl⟩
      rw [← hL] at ho ⊢
      have HL9 := Lib.hid hL
      have HN9 := Lib.hid (show L9.length = 21 by rw [hL, List.length_append, be_length, HN8.out])
      have HO := Lib.hid (ByteOut.next HP.out.b ho hb)
      have HP := Lib.hid (HP.out.below hb)
      clear ho hb HQ hL p0 p1 p2 p3 p4 p5 p6 p7 p8 p9 p10 g0 g1 h0 h1 hsz hsz0
      obtain ⟨p0, p1, p2, p3, p4, p5, p6, p7, p8, p9, p10⟩ := frCells HP.out.g0
      obtain ⟨g0, g1, h0, h1⟩ := cells2 HP.out.wr.cell
      have hsz := HP.out.sz
      have hsz0 := Nat.lt_of_succ_lt hsz
      have HQ := Lib.hid (put_any A9 L9 c9 2 (u64n (bodyL x).length) (u64n_lt _) w9 HO.out.1.reads (by rw [HN9.out]; decide))
      go_wp2_with fail
      refine HQ.out.mono ?_
      rintro e w10 ⟨A10, c10, rfl, ho, hb⟩
      rw [wPut_ok (wOk_true (by omega) (by omega)), show Int.toNat 2 = 2 from rfl] at ho ⊢
      obtain ⟨L10, hL⟩ : ∃ l, l = L9 ++ be 2 (u64n (bodyL x).length) := ⟨_, rfl⟩
      rw [← hL] at ho ⊢
      have HL10 := Lib.hid hL
      have HN10 := Lib.hid (show L10.length = 23 by rw [hL, List.length_append, be_length, HN9.out])
      have HO := Lib.hid (ByteOut.next HP.out.b ho hb)
      have HP := Lib.hid (HP.out.below hb)
      clear ho hb HQ hL p0 p1 p2 p3 p4 p5 p6 p7 p8 p9 p10 g0 g1 h0 h1 hsz hsz0
      obtain ⟨p0, p1, p2, p3, p4, p5, p6, p7, p8, p9, p10⟩ := frCells HP.out.g0
      obtain ⟨g0, g1, h0, h1⟩ := cells2 HP.out.wr.cell
      have hsz := HP.out.sz
      have hsz0 := Nat.lt_of_succ_lt hsz
      clear ok wk wq wl
      have HH := Lib.hid (show L10 = headL x by rw [HL10.out, HL9.out, HL8.out, HL7.out, HL6.out]; rfl)
      obtain ⟨L11, hL⟩ : ∃ l, l = L10 ++ bodyL x := ⟨_, rfl⟩
      have HL11 := Lib.hid (show L11 = headL x ++ bodyL x by rw [hL, HH.out])
      have HN11 := Lib.hid (show L11.length = 23 + (bodyL x).length by rw [hL, List.length_append, HN10.out])
      replace hL := Lib.hid hL
      go_wp2_with (at_builtin; refine append_bbn rfl (.tmp 47) (.tmp 51) rfl A10 c10 L10 rfl HO.out.1 A3 c3 (bodyL x) rfl HP.out.wr.row.reads (by rw [HN10.out]; have := HBd.out; omega) L11 hL.out ?_)
      intro A11 c11 w11 hr11 hc11 hk11
      have hb11 := hc11.below (B := w.heap.size) (fun i hi hf => by have := HO.out.2.1 i hf; omega) HP.out.b.size
      have HO11 := Lib.hid (show ByteOut w w11 A11 c11 L11 from ⟨hr11, fun k hk => by
        rcases hk11 k hk with h | h
        · exact HO.out.2.1 k h
        · have := HP.out.b.size; omega, HP.out.b.trans hb11⟩)
      have HC := Lib.hid (crcSum_any A11 L11 c11 w11 hr11.reads (by rw [HN11.out]; have := HBd.out; unfold maxLen; omega))
      clear hL hr11 hc11 hk11 hb11
      go_wp2_with fail
      refine HC.out.mono ?_
      rintro e w12 ⟨rfl, hb12⟩
      have HO12 := Lib.hid (HO11.out.keep hb12)
      have hcl := crcAdd_lt 0 L11
      have wc := wrap64_nat (show crcAdd 0 L11 < 18446744073709551616 by omega)
      have HQ := Lib.hid (put_any A11 L11 c11 4 (crcAdd 0 L11) (by omega) w12 HO12.out.1.reads (by rw [HN11.out]; have := HBd.out; omega))
      clear hb12 hcl
      go_wp2_with fail
      refine HQ.out.mono ?_
      rintro e w13 ⟨A13, c13, rfl, ho, hb⟩
      rw [wPut_ok (wOk_true (by omega) (by omega)), show Int.toNat 4 = 4 from rfl] at ho ⊢
      have HF := Lib.hid (show putL x = L11 ++ be 4 (crcAdd 0 L11) by rw [HE.out.1, HL11.out])
      have HO13 := Lib.hid (ByteOut.next HO12.out.2.2 ho hb)
      rw [← HF.out] at HO13 ⊢
      clear ho hb HQ wc
      go_wp2_with fail
      go_ret2
      exact ⟨A13, c13, by rw [HE.out.2]; rfl, HO13.out⟩
end Go.Proofs.Ytebcginnnjigjaa

end
