/- The walk of BitsBytes. -/
import Derived.Test.YtiolfnnkkflaiaaDoorBits8
import Derived.Test.YtiolfnnkkflaiaaDoorLaw10B
open Go.RowKit
namespace Go.Proofs.YtiolfnnkkflaiaaDoor

theorem bitsOfList_any (A : Option Addr) (a b : Nat) (c : Nat) (ha : a < 18446744073709551616) (hb : b < 18446744073709551616) (w : World) (hr : Reads w 1 A (lst a b).length (nv (lst a b))) :
    Calls Tryd.prog 7 #[.slice A (lst a b).length c] w fun e w' => e = .returned (.tuple #[.agg #[.int .u64 a, .int .u64 b], .int .i64 0]) ∧ Below w.heap.size w w' := by
  have e : ((lst a b).map Int.ofNat).length = (lst a b).length := List.length_map _
  rw [nv_zv] at hr
  have h := bitsOf_any A ((lst a b).map Int.ofNat) c w (by rw [e]; exact hr) (by rw [e]; have := lst_length a b; have := lo_len a; have := lo_len b; omega)
  rw [e, ofS_lst a b ha hb] at h
  exact h

set_option maxHeartbeats 4000000 in
set_option maxRecDepth 100000 in
theorem bitsBytes_any (a b : Nat) (s : ByteArray) (ha : a < 18446744073709551616) (hb : b < 18446744073709551616) (hm : s.size ≤ 140737488351232) (w : World) (hT : TabAt 0 Lib.deBruijn64tab w) :
    Calls Tryd.prog 5 #[.agg #[.int .u64 a, .int .u64 b], .string s] w fun e w' => e = .returned (.bool true) ∧ Below w.heap.size w w' := by
  obtain ⟨hb1, hg1, hg2, hs1⟩ := alloc2 w #[.int .u64 a, .int .u64 b] 24 #[.int .u64 a, .int .u64 b] 26
  have HT := Lib.hid hT
  have HF := Lib.hid (bitsFrom_any s)
  have HG := Lib.hid (refFrom_any s hm)
  have HF2 := Lib.hid (bitsFrom_any (setB a b))
  rw [fromS_setB a b ha hb] at HF2
  have HB := Lib.hid (bitsBytes_m a b ha hb)
  have HC := Lib.hid (refBytes_m a b ha hb)
  have HL := Lib.hid (bitsList_any a b ha hb)
  have HO := Lib.hid fun A c => bitsOfList_any A a b c ha hb
  have hlt := fromS_lt (bl s)
  have HBx := Lib.hid (bitsBytes_m (fromS (bl s)).1 (fromS (bl s)).2.1 hlt.1 hlt.2)
  have Hback := Lib.hid (setB_fromS s)
  have h3 : (fromS (bl s)).2.2 = 0 ∨ (fromS (bl s)).2.2 = 4 := by unfold fromS; split <;> simp
  have H3 := Lib.hid h3
  generalize fromS (bl s) = x at HF HG HBx Hback H3
  obtain ⟨x1, x2, x3⟩ := x
  simp only at HF HG HBx Hback H3
  have Hll : Hid ((lst a b).length ≤ 128) := Lib.hid (by have := lst_length a b; have := lo_len a; have := lo_len b; omega)
  generalize lst a b = ls at HL HO Hll
  clear ha hb hm hT hlt h3
  go_enter Tryd.func5, Tryd.ntmps5
  go_wp2_with fail
  generalize (w.alloc (.cells #[.int .u64 a, .int .u64 b] 24)).alloc (.cells #[.int .u64 a, .int .u64 b] 26) = w1 at hb1 hg1 hg2 hs1 ⊢
  have HR1 := Lib.hid hb1
  have P2 := Lib.hid hg1
  have P5 := Lib.hid hg2
  have Hs1 := Lib.hid (show w.heap.size + 2 ≤ w1.heap.size by omega)
  clear hb1 hg1 hg2 hs1
  refine (HF.out w1).mono ?_
  rintro e w2 ⟨rfl, hb2⟩
  obtain ⟨hb3, hg6, hs3⟩ := alloc1 w2 #[.int .u64 x1, .int .u64 x2] 26
  have hq := hb2.trans (hb3.mono (B' := w1.heap.size) hb2.size)
  have P2 := Lib.hid ((hq.block _ (by have := Hs1.out; omega)).trans P2.out)
  have P5 := Lib.hid ((hq.block _ (by have := Hs1.out; omega)).trans P5.out)
  have HR3 := Lib.hid (HR1.out.trans (hq.mono (B' := w.heap.size) HR1.out.size))
  have Hs3 := Lib.hid (show w.heap.size + 2 ≤ w2.heap.size ∧ w2.heap.size + 1 ≤ (w2.alloc (.cells #[.int .u64 x1, .int .u64 x2] 26)).heap.size from ⟨Nat.le_trans Hs1.out hb2.size, by omega⟩)
  go_wp2_with fail
  generalize w2.alloc (.cells #[.int .u64 x1, .int .u64 x2] 26) = w3 at hg6 P2 P5 HR3 Hs3 ⊢
  clear hb2 hb3 hs3 hq HR1 Hs1 HF
  generalize w2.heap.size = g6 at hg6 Hs3 ⊢
  have P6 := Lib.hid hg6
  clear hg6
  refine (HG.out w3).mono ?_
  rintro e w4 ⟨rfl, hb4⟩
  obtain ⟨hb5, hg8, hs5⟩ := alloc1 w4 #[.int .u64 x1, .int .u64 x2] 30
  have hq := hb4.trans (hb5.mono (B' := w3.heap.size) hb4.size)
  have hs3 := Hs3.out
  have P2 := Lib.hid ((hq.block _ (by omega)).trans P2.out)
  have p5 := (hq.block _ (by omega)).trans P5.out
  have P6 := Lib.hid ((hq.block g6 (by omega)).trans P6.out)
  have HR5 := Lib.hid (HR3.out.trans (hq.mono (B' := w.heap.size) HR3.out.size))
  have Hs5 := Lib.hid (show w.heap.size + 2 ≤ g6 ∧ g6 + 1 ≤ w4.heap.size ∧ w4.heap.size + 1 ≤ (w4.alloc (.cells #[.int .u64 x1, .int .u64 x2] 30)).heap.size from ⟨hs3.1, Nat.le_trans hs3.2 hb4.size, by omega⟩)
  obtain ⟨c0, c1, _, _⟩ := cells2 p5
  have P5 := Lib.hid p5
  clear hb4 hb5 hs5 hs3 hq HR3 Hs3 HG p5
  go_wp2_with fail
  clear c0 c1
  generalize w4.alloc (.cells #[.int .u64 x1, .int .u64 x2] 30) = w5 at hg8 P2 P5 P6 HR5 Hs5 ⊢
  generalize w4.heap.size = g8 at hg8 Hs5 ⊢
  have P8 := Lib.hid hg8
  clear hg8
  have HS5 := Lib.hid (Below.refl w5.heap.size w5)
  refine (HB.out w5).mono ?_
  rintro e w6 ⟨rfl, hb6⟩
  have HS6 := Lib.hid hb6
  clear hb6
  go_wp2_with fail
  refine (HF2.out w6).mono ?_
  rintro e w7 ⟨rfl, hb7⟩
  have hq := HS6.out.trans (hb7.mono (B' := w5.heap.size) HS6.out.size)
  obtain ⟨hb8, hg10, hs8⟩ := alloc1 w7 #[.int .u64 a, .int .u64 b] 26
  have hq := hq.trans (hb8.mono (B' := w5.heap.size) hq.size)
  have hs5 := Hs5.out
  have P2 := Lib.hid ((hq.block _ (by omega)).trans P2.out)
  have p5 := (hq.block _ (by omega)).trans P5.out
  have P6 := Lib.hid ((hq.block g6 (by omega)).trans P6.out)
  have P8 := Lib.hid ((hq.block g8 (by omega)).trans P8.out)
  have HR8 := Lib.hid (HR5.out.trans (hq.mono (B' := w.heap.size) HR5.out.size))
  have hs7 : w5.heap.size ≤ w7.heap.size := Nat.le_trans HS6.out.size hb7.size
  have Hs8 := Lib.hid (show w.heap.size + 2 ≤ g6 ∧ g6 + 1 ≤ g8 ∧ g8 + 1 ≤ w7.heap.size ∧ w7.heap.size + 1 ≤ (w7.alloc (.cells #[.int .u64 a, .int .u64 b] 26)).heap.size from ⟨hs5.1, hs5.2.1, by omega, by omega⟩)
  obtain ⟨c0, c1, _, _⟩ := cells2 p5
  have P5 := Lib.hid p5
  clear hb7 hb8 hs8 hs5 hs7 hq HR5 Hs5 HS5 HS6 p5 HF2
  go_wp2_with fail
  clear c0 c1
  generalize w7.alloc (.cells #[.int .u64 a, .int .u64 b] 26) = w8 at hg10 P2 P5 P6 P8 HR8 Hs8 ⊢
  generalize w7.heap.size = g10 at hg10 Hs8 ⊢
  have P10 := Lib.hid hg10
  clear hg10
  refine (HL.out w8 (tab_below HT.out HR8.out (tab_lt HT.out))).mono ?_
  rintro e w9 ⟨A9, c9, rfl, ho9, hb9⟩
  have hr9 := ho9.reads
  rw [nv_length] at hr9
  have HS9 := Lib.hid hb9
  have Hr9 := Lib.hid hr9
  clear hb9 ho9 hr9
  go_wp2_with fail
  refine (HO.out A9 c9 w9 Hr9.out).mono ?_
  rintro e w10 ⟨rfl, hb10⟩
  have hq := HS9.out.trans (hb10.mono (B' := w8.heap.size) HS9.out.size)
  obtain ⟨hb11, hg12, hs11⟩ := alloc1 w10 #[.int .u64 a, .int .u64 b] 26
  have hq := hq.trans (hb11.mono (B' := w8.heap.size) hq.size)
  have hs8 := Hs8.out
  have P2 := Lib.hid ((hq.block _ (by omega)).trans P2.out)
  have P5 := Lib.hid ((hq.block _ (by omega)).trans P5.out)
  have P6 := Lib.hid ((hq.block g6 (by omega)).trans P6.out)
  have P8 := Lib.hid ((hq.block g8 (by omega)).trans P8.out)
  have P10 := Lib.hid ((hq.block g10 (by omega)).trans P10.out)
  have HRa := Lib.hid (HR8.out.trans (hq.mono (B' := w.heap.size) HR8.out.size))
  clear hb10 hb11 hs11 hs8 hq HR8 Hs8 HS9 HO HL Hr9 Hll
  go_wp2_with fail
  generalize w10.alloc (.cells #[.int .u64 a, .int .u64 b] 26) = w11 at hg12 P2 P5 P6 P8 P10 HRa ⊢
  generalize w10.heap.size = g12 at hg12 ⊢
  have P12 := Lib.hid hg12
  clear hg12
  have HT9 := Lib.hid (tab_below HT.out HRa.out (tab_lt HT.out))
  have HR1 := Lib.hid ((Below.refl w11.heap.size w11).drew)
  obtain ⟨p0, p1⟩ := keep2 P5.out HR1.out
  obtain ⟨p2, p3⟩ := keep2 P2.out HR1.out
  have q1 := eql_ref x1 x2
  have q2 := eql_set a b
  refine wp_region_mix (KeepsBut []) (KeepsBut.refl []) (KeepsBut.trans []) [] [(true, 0), (true, 2), (false, 1), (false, 3), (true, 4), (true, 5), (true, 6), (true, 7), (true, 8), (true, 9), (true, 10), (true, 11), (true, 12), (true, 13), (true, 14), (true, 15), (true, 16), (true, 17), (true, 18), (true, 19), (true, 20), (true, 21), (true, 22), (true, 23), (true, 24), (true, 25), (true, 26), (true, 27), (true, 28), (true, 29), (true, 30), (true, 31), (true, 32), (true, 33), (true, 34), (true, 35), (true, 36), (true, 37), (true, 39), (false, 38), (true, 40), (true, 41), (true, 42), (true, 43), (false, 44), (true, 45), (true, 46)] (by kernel_rfl) (by kernel_rfl) (fun d _ _ _ _ h => by cases d <;> exact h) ?_
  repeat (first
    | (refine mix_pure (v := ?_) rfl rfl ?_ (mix_norm (a' := ?_) ?_ ?_)
       rotate_left
       focus (intro w' hR; go_simp; first | done | (with_reducible rfl))
       rotate_left
       focus (simp only [Act.put, List.getElem_toArray, List.getElem_cons_zero, List.getElem_cons_succ, List.setIfInBounds_toArray, List.set_cons_zero, List.set_cons_succ]; rfl))
    | (refine mix_off rfl rfl (mix_norm (a' := ?_) ?_ ?_)
       rotate_left
       focus (simp only [Act.put, List.getElem_toArray, List.getElem_cons_zero, List.getElem_cons_succ, List.setIfInBounds_toArray, List.set_cons_zero, List.set_cons_succ]; rfl)))
  clear p0 p1 p2 p3
  refine mix_eff rfl ?_
  simp only [List.getElem_toArray, List.getElem_cons_zero, List.getElem_cons_succ]
  go_wp2_with fail
  refine (HB.out _).mono ?_
  rintro e w12 ⟨rfl, hb12⟩
  have HR12 := Lib.hid (show Below w11.heap.size w11 w12 from HR1.out.trans (hb12.mono (B' := w11.heap.size) HR1.out.size))
  go_wp2_with fail
  refine mixQ_normal (KeepsBut.of_below hb12) rfl ?_
  clear hb12
  refine mix_eff rfl ?_
  simp only [List.getElem_toArray, List.getElem_cons_zero, List.getElem_cons_succ]
  go_wp2_with fail
  refine (HC.out _).mono ?_
  rintro e w13 ⟨rfl, hb13⟩
  have HR13 := Lib.hid (show Below w11.heap.size w11 w13 from HR12.out.trans (hb13.mono (B' := w11.heap.size) HR12.out.size))
  go_wp2_with fail
  refine mixQ_normal (KeepsBut.of_below hb13) rfl ?_
  clear hb13
  obtain ⟨p0, p1⟩ := keep2 P5.out HR13.out
  obtain ⟨p2, p3⟩ := keep2 P6.out HR13.out
  obtain ⟨p4, p5⟩ := keep2 P8.out HR13.out
  obtain ⟨p6, p7⟩ := keep2 P10.out HR13.out
  obtain ⟨p8, p9⟩ := keep2 P12.out HR13.out
  rcases H3.out with rfl | rfl
  · rw [show ((0 : Nat) : Int) = 0 from rfl]
    have e : setB x1 x2 = s := Hback.out rfl
    rw [e] at HBx
    clear e
    repeat (first
      | (refine mix_pure (v := ?_) rfl rfl ?_ (mix_norm (a' := ?_) ?_ ?_)
         rotate_left
         focus (intro w' hR; go_simp; first | done | (with_reducible rfl))
         rotate_left
         focus (simp only [Act.put, List.getElem_toArray, List.getElem_cons_zero, List.getElem_cons_succ, List.setIfInBounds_toArray, List.set_cons_zero, List.set_cons_succ]; rfl))
      | (refine mix_off rfl rfl (mix_norm (a' := ?_) ?_ ?_)
         rotate_left
         focus (simp only [Act.put, List.getElem_toArray, List.getElem_cons_zero, List.getElem_cons_succ, List.setIfInBounds_toArray, List.set_cons_zero, List.set_cons_succ]; rfl)))
    clear p0 p1 p2 p3 p4 p5 p6 p7 p8 p9 q1 q2
    refine mix_eff rfl ?_
    simp only [List.getElem_toArray, List.getElem_cons_zero, List.getElem_cons_succ]
    go_wp2_with fail
    refine (HBx.out _).mono ?_
    rintro e w14 ⟨rfl, hb14⟩
    have HR14 := Lib.hid (show Below w11.heap.size w11 w14 from HR13.out.trans (hb14.mono (B' := w11.heap.size) HR13.out.size))
    go_wp2_with fail
    refine mixQ_normal (KeepsBut.of_below hb14) rfl ?_
    clear hb14
    repeat (first
      | (refine mix_pure (v := ?_) rfl rfl ?_ (mix_norm (a' := ?_) ?_ ?_)
         rotate_left
         focus (intro w' hR; go_simp; first | done | (with_reducible rfl))
         rotate_left
         focus (simp only [Act.put, List.getElem_toArray, List.getElem_cons_zero, List.getElem_cons_succ, List.setIfInBounds_toArray, List.set_cons_zero, List.set_cons_succ]; rfl))
      | (refine mix_off rfl rfl (mix_norm (a' := ?_) ?_ ?_)
         rotate_left
         focus (simp only [Act.put, List.getElem_toArray, List.getElem_cons_zero, List.getElem_cons_succ, List.setIfInBounds_toArray, List.set_cons_zero, List.set_cons_succ]; rfl)))
    refine mix_eff rfl ?_
    simp only [List.getElem_toArray, List.getElem_cons_zero, List.getElem_cons_succ]
    go_wp2_with fail
    refine (known10_any _ (tab_below HT9.out HR14.out (tab_lt HT9.out))).mono ?_
    rintro e w15 ⟨rfl, hb15⟩
    have HR15 := Lib.hid (show Below w11.heap.size w11 w15 from HR14.out.trans (hb15.mono (B' := w11.heap.size) HR14.out.size))
    go_wp2_with fail
    refine mixQ_normal (KeepsBut.of_below hb15) rfl ?_
    clear hb15
    repeat (first
      | (refine mix_pure (v := ?_) rfl rfl ?_ (mix_norm (a' := ?_) ?_ ?_)
         rotate_left
         focus (intro w' hR; go_simp; first | done | (with_reducible rfl))
         rotate_left
         focus (simp only [Act.put, List.getElem_toArray, List.getElem_cons_zero, List.getElem_cons_succ, List.setIfInBounds_toArray, List.set_cons_zero, List.set_cons_succ]; rfl))
      | (refine mix_off rfl rfl (mix_norm (a' := ?_) ?_ ?_)
         rotate_left
         focus (simp only [Act.put, List.getElem_toArray, List.getElem_cons_zero, List.getElem_cons_succ, List.setIfInBounds_toArray, List.set_cons_zero, List.set_cons_succ]; rfl)))
    refine mix_done ?_
    go_wp2_with fail
    go_ret
    exact ⟨rfl, HRa.out.trans (HR15.out.mono HRa.out.size)⟩
  · rw [show ((4 : Nat) : Int) = 4 from rfl]
    repeat (first
      | (refine mix_pure (v := ?_) rfl rfl ?_ (mix_norm (a' := ?_) ?_ ?_)
         rotate_left
         focus (intro w' hR; go_simp; first | done | (with_reducible rfl))
         rotate_left
         focus (simp only [Act.put, List.getElem_toArray, List.getElem_cons_zero, List.getElem_cons_succ, List.setIfInBounds_toArray, List.set_cons_zero, List.set_cons_succ]; rfl))
      | (refine mix_off rfl rfl (mix_norm (a' := ?_) ?_ ?_)
         rotate_left
         focus (simp only [Act.put, List.getElem_toArray, List.getElem_cons_zero, List.getElem_cons_succ, List.setIfInBounds_toArray, List.set_cons_zero, List.set_cons_succ]; rfl)))
    clear p0 p1 p2 p3 p4 p5 p6 p7 p8 p9 q1 q2
    refine mix_skip (KeepsBut.refl []) rfl rfl ?_
    repeat (first
      | (refine mix_pure (v := ?_) rfl rfl ?_ (mix_norm (a' := ?_) ?_ ?_)
         rotate_left
         focus (intro w' hR; go_simp; first | done | (with_reducible rfl))
         rotate_left
         focus (simp only [Act.put, List.getElem_toArray, List.getElem_cons_zero, List.getElem_cons_succ, List.setIfInBounds_toArray, List.set_cons_zero, List.set_cons_succ]; rfl))
      | (refine mix_off rfl rfl (mix_norm (a' := ?_) ?_ ?_)
         rotate_left
         focus (simp only [Act.put, List.getElem_toArray, List.getElem_cons_zero, List.getElem_cons_succ, List.setIfInBounds_toArray, List.set_cons_zero, List.set_cons_succ]; rfl)))
    refine mix_eff rfl ?_
    simp only [List.getElem_toArray, List.getElem_cons_zero, List.getElem_cons_succ]
    go_wp2_with fail
    refine (known10_any _ (tab_below HT9.out HR13.out (tab_lt HT9.out))).mono ?_
    rintro e w15 ⟨rfl, hb15⟩
    have HR15 := Lib.hid (show Below w11.heap.size w11 w15 from HR13.out.trans (hb15.mono (B' := w11.heap.size) HR13.out.size))
    go_wp2_with fail
    refine mixQ_normal (KeepsBut.of_below hb15) rfl ?_
    clear hb15
    repeat (first
      | (refine mix_pure (v := ?_) rfl rfl ?_ (mix_norm (a' := ?_) ?_ ?_)
         rotate_left
         focus (intro w' hR; go_simp; first | done | (with_reducible rfl))
         rotate_left
         focus (simp only [Act.put, List.getElem_toArray, List.getElem_cons_zero, List.getElem_cons_succ, List.setIfInBounds_toArray, List.set_cons_zero, List.set_cons_succ]; rfl))
      | (refine mix_off rfl rfl (mix_norm (a' := ?_) ?_ ?_)
         rotate_left
         focus (simp only [Act.put, List.getElem_toArray, List.getElem_cons_zero, List.getElem_cons_succ, List.setIfInBounds_toArray, List.set_cons_zero, List.set_cons_succ]; rfl)))
    refine mix_done ?_
    go_wp2_with fail
    go_ret
    exact ⟨rfl, HRa.out.trans (HR15.out.mono HRa.out.size)⟩
end Go.Proofs.YtiolfnnkkflaiaaDoor
