/- The walk of BitsTells. -/
import Derived.Test.YtiolfnnkkflaiaaDoorBits6
import Derived.Test.YtiolfnnkkflaiaaDoorLaw10A
open Go.RowKit
namespace Go.Proofs.YtiolfnnkkflaiaaDoor

theorem intsNat_same (A B : Option Addr) (l : List Nat) (c d : Nat) (w : World) (hr : Reads w 1 A l.length (nv l)) (hs : Reads w 1 B l.length (nv l)) (hl : l.length ≤ 100000) :
    Calls Tryd.prog 17 #[.slice A l.length c, .slice B l.length d] w fun e w' => e = .returned (.bool true) ∧ Below w.heap.size w w' := by
  have e : (l.map Int.ofNat).length = l.length := List.length_map _
  rw [nv_zv] at hr hs
  have h := ints_any A B (l.map Int.ofNat) (l.map Int.ofNat) c d w (by rw [e]; exact hr) (by rw [e]; exact hs) (by rw [e]; exact hl) (by rw [e]; exact hl)
  rw [e, decide_eq_true rfl] at h
  exact h

set_option maxHeartbeats 4000000 in
set_option maxRecDepth 100000 in
theorem bitsTells_any (A : Option Addr) (l : List Int) (c : Nat) (a b : Nat) (i : Int) (ha : a < 18446744073709551616) (hb : b < 18446744073709551616) (w : World) (hr : Reads w 1 A l.length (zv l)) (hT : TabAt 0 Lib.deBruijn64tab w) :
    Calls Tryd.prog 3 #[.slice A l.length c, .agg #[.int .u64 a, .int .u64 b], .int .i64 i] w fun e w' => e = .returned (.bool true) ∧ Below w.heap.size w w' := by
  obtain ⟨hb1, hg1, hs1⟩ := alloc1 w #[.int .u64 a, .int .u64 b] 24
  have HT := Lib.hid hT
  have Hr := Lib.hid hr
  clear hT hr
  by_cases hl : 300 < l.length
  · go_enter Tryd.func3, Tryd.ntmps3
    go_wp2_with fail
    generalize w.alloc (.cells #[.int .u64 a, .int .u64 b] 24) = w1 at hb1 ⊢
    have HR1 := Lib.hid hb1
    clear hb1 hg1 hs1
    refine (known10_any w1 (tab_below HT.out HR1.out (tab_lt HT.out))).mono ?_
    rintro e w2 ⟨rfl, hb2⟩
    go_wp2_with fail
    go_ret
    exact ⟨rfl, HR1.out.trans (hb2.mono HR1.out.size)⟩
  · have hl2 : l.length ≤ 300 := by omega
    have Ha := Lib.hid ha
    have Hb := Lib.hid hb
    clear ha hb hl
    go_enter Tryd.func3, Tryd.ntmps3
    go_wp2_with fail
    generalize w.alloc (.cells #[.int .u64 a, .int .u64 b] 24) = w1 at hb1 hg1 hs1 ⊢
    have HR1 := Lib.hid hb1
    have G1 := Lib.hid hg1
    have Hs1 := Lib.hid (show w.heap.size < w1.heap.size by omega)
    clear hb1 hg1 hs1
    refine (bitsOf_any A l c w1 (Hr.out.below HR1.out) (by omega)).mono ?_
    rintro e w2 ⟨rfl, hb2⟩
    have HQ := Lib.hid fun W h => refOf_any A l c W h (Nat.le_trans hl2 (by omega))
    have Hr2 := Lib.hid ((Hr.out.below HR1.out).below hb2)
    generalize ofS l 0 0 = z at HQ ⊢
    obtain ⟨z1, z2, z3⟩ := z
    simp only at HQ ⊢
    have HR2 := Lib.hid (HR1.out.trans (hb2.mono (B' := w.heap.size) HR1.out.size))
    have G2 := Lib.hid ((hb2.block _ Hs1.out).trans G1.out)
    have Hs2 := Lib.hid (Nat.lt_of_lt_of_le Hs1.out hb2.size)
    clear hb2 G1 Hs1 HR1
    obtain ⟨hb3, hg3, hs3⟩ := alloc1 w2 #[.int .u64 z1, .int .u64 z2] 26
    go_wp2_with fail
    have G3 := Lib.hid ((heap_alloc_old w2 (.cells #[.int .u64 z1, .int .u64 z2] 26) Hs2.out).trans G2.out)
    have Hr3 := Lib.hid (Hr2.out.below hb3)
    generalize w2.alloc (.cells #[.int .u64 z1, .int .u64 z2] 26) = w3 at hb3 hg3 hs3 G3 Hr3 ⊢
    have HR3 := Lib.hid (HR2.out.trans (hb3.mono (B' := w.heap.size) HR2.out.size))
    have Hs3 := Lib.hid (show w.heap.size < w2.heap.size ∧ w2.heap.size < w3.heap.size from ⟨Hs2.out, by omega⟩)
    generalize w2.heap.size = g7 at hg3 Hs3 ⊢
    have P7 := Lib.hid hg3
    clear hb3 hg3 hs3 G2 Hs2 HR2 Hr2
    refine (HQ.out w3 Hr3.out).mono ?_
    rintro e w4 ⟨rfl, hb4⟩
    have HR4 := Lib.hid (HR3.out.trans (hb4.mono (B' := w.heap.size) HR3.out.size))
    have hs3 := Hs3.out
    have G4 := Lib.hid ((hb4.block _ (by omega)).trans G3.out)
    have P7a := Lib.hid ((hb4.block g7 (by omega)).trans P7.out)
    have Hs4 := Lib.hid (show w.heap.size < g7 ∧ g7 < w4.heap.size from ⟨hs3.1, Nat.lt_of_lt_of_le hs3.2 hb4.size⟩)
    clear hb4 hs3 G3 Hs3 HR3 P7 HQ Hr3
    obtain ⟨hb5, hg9, hg11, hg12, hs5⟩ := alloc3 w4 #[.int .u64 z1, .int .u64 z2] 30 #[.int .u64 a, .int .u64 b] 26 #[.int .u64 a, .int .u64 b] 30
    obtain ⟨c0, c1, _, _⟩ := cells2 G4.out
    have hs4 := Hs4.out
    have hsz : w.heap.size < w4.heap.size := by omega
    go_wp2_with fail
    clear c0 c1 hs4 hsz
    have HW1 := Lib.hid (bitsWithZ_any a b i Ha.out Hb.out)
    have HW2 := Lib.hid (refWithZ_any a b i Ha.out Hb.out)
    generalize withZ a b i = y at HW1 HW2
    obtain ⟨y1, y2, y3⟩ := y
    simp only at HW1 HW2
    have P7 := Lib.hid ((hb5.block g7 Hs4.out.2).trans P7a.out)
    generalize ((w4.alloc (.cells #[.int .u64 z1, .int .u64 z2] 30)).alloc (.cells #[.int .u64 a, .int .u64 b] 26)).alloc (.cells #[.int .u64 a, .int .u64 b] 30) = w5 at hb5 hg9 hg11 hg12 hs5 P7 ⊢
    have HR5 := Lib.hid (HR4.out.trans (hb5.mono (B' := w.heap.size) HR4.out.size))
    have Hs5 := Lib.hid (show g7 < w4.heap.size ∧ w4.heap.size + 3 ≤ w5.heap.size from ⟨Hs4.out.2, by omega⟩)
    clear hb5 hs5 G4 P7a Hs4 HR4
    generalize w4.heap.size = g9 at hg9 hg11 hg12 Hs5 ⊢
    have P9 := Lib.hid hg9
    have P11 := Lib.hid hg11
    have P12 := Lib.hid hg12
    clear hg9 hg11 hg12
    refine (HW1.out w5).mono ?_
    rintro e w6 ⟨rfl, hb6⟩
    have HR6 := Lib.hid (HR5.out.trans (hb6.mono (B' := w.heap.size) HR5.out.size))
    have hs5 := Hs5.out
    have P7a := Lib.hid ((hb6.block g7 (by omega)).trans P7.out)
    have P9a := Lib.hid ((hb6.block g9 (by omega)).trans P9.out)
    have P11a := Lib.hid ((hb6.block (g9 + 1) (by omega)).trans P11.out)
    have P12a := Lib.hid ((hb6.block (g9 + 2) (by omega)).trans P12.out)
    have hs6 : g9 + 3 ≤ w6.heap.size := Nat.le_trans hs5.2 hb6.size
    have Hs6 := Lib.hid (show g7 < g9 ∧ g9 + 3 ≤ w6.heap.size from ⟨hs5.1, hs6⟩)
    clear hb6 P7 P9 P11 P12 HR5 Hs5 HW1
    obtain ⟨hb7, hg13, hs7⟩ := alloc1 w6 #[.int .u64 y1, .int .u64 y2] 26
    obtain ⟨c0, c1, _, _⟩ := cells2 P12a.out
    have hsz : g9 + 2 < w6.heap.size := by omega
    clear hs5 hs6
    go_wp2_with fail
    clear c0 c1 hsz
    have hs6 := Hs6.out
    have P7 := Lib.hid ((hb7.block g7 (by omega)).trans P7a.out)
    have P9 := Lib.hid ((hb7.block g9 (by omega)).trans P9a.out)
    have P11 := Lib.hid ((hb7.block (g9 + 1) (by omega)).trans P11a.out)
    have P12 := Lib.hid ((hb7.block (g9 + 2) (by omega)).trans P12a.out)
    have HR7 := Lib.hid (HR6.out.trans (hb7.mono (B' := w.heap.size) HR6.out.size))
    have hs7' : w6.heap.size + 1 ≤ (w6.alloc (.cells #[.int .u64 y1, .int .u64 y2] 26)).heap.size := by omega
    generalize w6.alloc (.cells #[.int .u64 y1, .int .u64 y2] 26) = w7 at hg13 hs7' P7 P9 P11 P12 HR7 ⊢
    have Hs7 := Lib.hid (show g7 < g9 ∧ g9 + 3 ≤ w6.heap.size ∧ w6.heap.size + 1 ≤ w7.heap.size from ⟨hs6.1, hs6.2, hs7'⟩)
    clear hb7 hs7 hs7' hs6 P7a P9a P11a P12a HR6 Hs6
    generalize w6.heap.size = g13 at hg13 Hs7 ⊢
    have P13 := Lib.hid hg13
    clear hg13
    refine (HW2.out w7).mono ?_
    rintro e w8 ⟨rfl, hb8⟩
    have HR8 := Lib.hid (HR7.out.trans (hb8.mono (B' := w.heap.size) HR7.out.size))
    have hs7 := Hs7.out
    have hs8 := hb8.size
    obtain ⟨hb9, hg15, hs9⟩ := alloc1 w8 #[.int .u64 y1, .int .u64 y2] 30
    have hq : Below w7.heap.size w7 _ := hb8.trans (hb9.mono (B' := w7.heap.size) hs8)
    have P7 := Lib.hid ((hq.block g7 (by omega)).trans P7.out)
    have P9 := Lib.hid ((hq.block g9 (by omega)).trans P9.out)
    have P11 := Lib.hid ((hq.block (g9 + 1) (by omega)).trans P11.out)
    have P12 := Lib.hid ((hq.block (g9 + 2) (by omega)).trans P12.out)
    have P13 := Lib.hid ((hq.block g13 (by omega)).trans P13.out)
    have HRa := Lib.hid (HR8.out.trans (hb9.mono (B' := w.heap.size) HR8.out.size))
    clear hq hb8 hb9 hs7 hs8 hs9 HR7 HR8 HW2 Hs7
    go_wp2_with fail
    generalize w8.alloc (.cells #[.int .u64 y1, .int .u64 y2] 30) = w9 at hg15 P7 P9 P11 P12 P13 HRa ⊢
    generalize w8.heap.size = g15 at hg15 ⊢
    have P15 := Lib.hid hg15
    clear hg15
    have HT9 := Lib.hid (tab_below HT.out HRa.out (tab_lt HT.out))
    have HR9 := Lib.hid ((Below.refl w9.heap.size w9).drew)
    have Cw := Lib.hid (bitsWithout_any a b i Ha.out Hb.out)
    have Rw := Lib.hid (refWithout_any a b i Ha.out Hb.out)
    have Ch := Lib.hid (bitsHas_any a b i Ha.out Hb.out)
    have Rh := Lib.hid (refHas_any a b i Ha.out Hb.out)
    have Cc := Lib.hid (count_any a b Ha.out Hb.out)
    have Rl := Lib.hid (refList_any a b Ha.out Hb.out)
    have Cl := Lib.hid (bitsList_any a b Ha.out Hb.out)
    have Hll : Hid ((lst a b).length ≤ 128) := Lib.hid (by have := lst_length a b; have := lo_len a; have := lo_len b; omega)
    have Hin := Lib.hid fun A B c d W h1 h2 => intsNat_same A B (lst a b) c d W h1 h2 (Nat.le_trans Hll.out (by omega))
    generalize sdelZ a b i = v at Cw Rw
    obtain ⟨v1, v2⟩ := v
    generalize hasZ a b i = hz at Ch Rh
    generalize lst a b = ls at Cc Rl Cl Hll Hin
    obtain ⟨p0, p1⟩ := keep2 P7.out HR9.out
    obtain ⟨p2, p3⟩ := keep2 P9.out HR9.out
    obtain ⟨p4, p5⟩ := keep2 P11.out HR9.out
    obtain ⟨p6, p7⟩ := keep2 P12.out HR9.out
    obtain ⟨p8, p9⟩ := keep2 P13.out HR9.out
    obtain ⟨p10, p11⟩ := keep2 P15.out HR9.out
    have q1 := eql_ref z1 z2
    have q2 := eql_ref y1 y2
    have q3 := eql_ref v1 v2
    refine wp_region_mix (KeepsBut []) (KeepsBut.refl []) (KeepsBut.trans []) [] [(true, 0), (true, 1), (true, 2), (true, 3), (true, 4), (true, 5), (true, 6), (true, 7), (true, 8), (true, 9), (true, 10), (true, 11), (true, 12), (true, 13), (true, 14), (true, 15), (true, 16), (true, 17), (true, 18), (true, 19), (true, 20), (true, 22), (true, 23), (false, 21), (false, 24), (true, 25), (true, 26), (true, 27), (true, 28), (true, 29), (true, 31), (true, 32), (false, 30), (false, 33), (true, 34), (true, 35), (true, 36), (true, 37), (true, 39), (false, 38), (false, 40), (true, 41), (true, 42), (true, 43), (true, 44), (true, 45), (true, 47), (false, 46), (false, 48), (false, 49), (true, 50), (true, 51), (false, 52), (true, 53), (true, 54)] (by kernel_rfl) (by kernel_rfl) (fun d _ _ _ _ h => by cases d <;> exact h) ?_
    repeat (first
      | (refine mix_pure (v := ?_) rfl rfl ?_ (mix_norm (a' := ?_) ?_ ?_)
         rotate_left
         focus (intro w' hR; go_simp; first | done | (with_reducible rfl))
         rotate_left
         focus (simp only [Act.put, List.getElem_toArray, List.getElem_cons_zero, List.getElem_cons_succ, List.setIfInBounds_toArray, List.set_cons_zero, List.set_cons_succ]; rfl))
      | (refine mix_off rfl rfl (mix_norm (a' := ?_) ?_ ?_)
         rotate_left
         focus (simp only [Act.put, List.getElem_toArray, List.getElem_cons_zero, List.getElem_cons_succ, List.setIfInBounds_toArray, List.set_cons_zero, List.set_cons_succ]; rfl)))
    clear p0 p1 p2 p3 p4 p5 p6 p7 p8 p9 p10 p11 q1 q2
    refine mix_eff rfl ?_
    simp only [List.getElem_toArray, List.getElem_cons_zero, List.getElem_cons_succ]
    go_wp2_with fail
    refine (Cw.out _).mono ?_
    rintro e w10 ⟨rfl, hb10⟩
    have HR10 := Lib.hid (show Below w9.heap.size w9 w10 from HR9.out.trans (hb10.mono (B' := w9.heap.size) HR9.out.size))
    go_wp2_with fail
    refine mixQ_normal (KeepsBut.of_below hb10) rfl ?_
    clear hb10
    refine mix_eff rfl ?_
    simp only [List.getElem_toArray, List.getElem_cons_zero, List.getElem_cons_succ]
    go_wp2_with fail
    refine (Rw.out _).mono ?_
    rintro e w11 ⟨rfl, hb11⟩
    have HR11 := Lib.hid (show Below w9.heap.size w9 w11 from HR10.out.trans (hb11.mono (B' := w9.heap.size) HR10.out.size))
    go_wp2_with fail
    refine mixQ_normal (KeepsBut.of_below hb11) rfl ?_
    clear hb11
    obtain ⟨p4, p5⟩ := keep2 P11.out HR11.out
    obtain ⟨p6, p7⟩ := keep2 P12.out HR11.out
    repeat (first
      | (refine mix_pure (v := ?_) rfl rfl ?_ (mix_norm (a' := ?_) ?_ ?_)
         rotate_left
         focus (intro w' hR; go_simp; first | done | (with_reducible rfl))
         rotate_left
         focus (simp only [Act.put, List.getElem_toArray, List.getElem_cons_zero, List.getElem_cons_succ, List.setIfInBounds_toArray, List.set_cons_zero, List.set_cons_succ]; rfl))
      | (refine mix_off rfl rfl (mix_norm (a' := ?_) ?_ ?_)
         rotate_left
         focus (simp only [Act.put, List.getElem_toArray, List.getElem_cons_zero, List.getElem_cons_succ, List.setIfInBounds_toArray, List.set_cons_zero, List.set_cons_succ]; rfl)))
    clear p4 p5 p6 p7 q3
    refine mix_eff rfl ?_
    simp only [List.getElem_toArray, List.getElem_cons_zero, List.getElem_cons_succ]
    go_wp2_with fail
    refine (Ch.out _).mono ?_
    rintro e w12 ⟨rfl, hb12⟩
    have HR12 := Lib.hid (show Below w9.heap.size w9 w12 from HR11.out.trans (hb12.mono (B' := w9.heap.size) HR11.out.size))
    go_wp2_with fail
    refine mixQ_normal (KeepsBut.of_below hb12) rfl ?_
    clear hb12
    refine mix_eff rfl ?_
    simp only [List.getElem_toArray, List.getElem_cons_zero, List.getElem_cons_succ]
    go_wp2_with fail
    refine (Rh.out _).mono ?_
    rintro e w13 ⟨rfl, hb13⟩
    have HR13 := Lib.hid (show Below w9.heap.size w9 w13 from HR12.out.trans (hb13.mono (B' := w9.heap.size) HR12.out.size))
    go_wp2_with fail
    refine mixQ_normal (KeepsBut.of_below hb13) rfl ?_
    clear hb13
    obtain ⟨p4, p5⟩ := keep2 P11.out HR13.out
    obtain ⟨p6, p7⟩ := keep2 P12.out HR13.out
    repeat (first
      | (refine mix_pure (v := ?_) rfl rfl ?_ (mix_norm (a' := ?_) ?_ ?_)
         rotate_left
         focus (intro w' hR; go_simp; first | done | (with_reducible rfl))
         rotate_left
         focus (simp only [Act.put, List.getElem_toArray, List.getElem_cons_zero, List.getElem_cons_succ, List.setIfInBounds_toArray, List.set_cons_zero, List.set_cons_succ]; rfl))
      | (refine mix_off rfl rfl (mix_norm (a' := ?_) ?_ ?_)
         rotate_left
         focus (simp only [Act.put, List.getElem_toArray, List.getElem_cons_zero, List.getElem_cons_succ, List.setIfInBounds_toArray, List.set_cons_zero, List.set_cons_succ]; rfl)))
    clear p4 p5 p6 p7
    refine mix_eff rfl ?_
    simp only [List.getElem_toArray, List.getElem_cons_zero, List.getElem_cons_succ]
    go_wp2_with fail
    refine (Cc.out _).mono ?_
    rintro e w14 ⟨rfl, hb14⟩
    have HR14 := Lib.hid (show Below w9.heap.size w9 w14 from HR13.out.trans (hb14.mono (B' := w9.heap.size) HR13.out.size))
    go_wp2_with fail
    refine mixQ_normal (KeepsBut.of_below hb14) rfl ?_
    clear hb14
    refine mix_eff rfl ?_
    simp only [List.getElem_toArray, List.getElem_cons_zero, List.getElem_cons_succ]
    go_wp2_with fail
    refine (Rl.out _).mono ?_
    rintro e w15 ⟨A1, c1, rfl, ho1, hb15⟩
    have HR15 := Lib.hid (show Below w9.heap.size w9 w15 from HR14.out.trans (hb15.mono (B' := w9.heap.size) HR14.out.size))
    clear ho1
    go_wp2_with fail
    refine mixQ_normal (KeepsBut.of_below hb15) rfl ?_
    clear hb15
    obtain ⟨p4, p5⟩ := keep2 P11.out HR15.out
    obtain ⟨p6, p7⟩ := keep2 P12.out HR15.out
    repeat (first
      | (refine mix_pure (v := ?_) rfl rfl ?_ (mix_norm (a' := ?_) ?_ ?_)
         rotate_left
         focus (intro w' hR; go_simp; first | done | (with_reducible rfl))
         rotate_left
         focus (simp only [Act.put, List.getElem_toArray, List.getElem_cons_zero, List.getElem_cons_succ, List.setIfInBounds_toArray, List.set_cons_zero, List.set_cons_succ]; rfl))
      | (refine mix_off rfl rfl (mix_norm (a' := ?_) ?_ ?_)
         rotate_left
         focus (simp only [Act.put, List.getElem_toArray, List.getElem_cons_zero, List.getElem_cons_succ, List.setIfInBounds_toArray, List.set_cons_zero, List.set_cons_succ]; rfl)))
    clear p4 p5 p6 p7
    refine mix_eff rfl ?_
    simp only [List.getElem_toArray, List.getElem_cons_zero, List.getElem_cons_succ]
    go_wp2_with fail
    refine (Cl.out _ (tab_below HT9.out HR15.out (tab_lt HT9.out))).mono ?_
    rintro e w16 ⟨A2, c2, rfl, ho2, hb16⟩
    have HR16 := Lib.hid (show Below w9.heap.size w9 w16 from HR15.out.trans (hb16.mono (B' := w9.heap.size) HR15.out.size))
    have Ho2 := Lib.hid ho2.reads
    clear ho2
    go_wp2_with fail
    refine mixQ_normal (KeepsBut.of_below hb16) rfl ?_
    clear hb16
    refine mix_eff rfl ?_
    simp only [List.getElem_toArray, List.getElem_cons_zero, List.getElem_cons_succ]
    go_wp2_with fail
    refine (Rl.out _).mono ?_
    rintro e w17 ⟨A3, c3, rfl, ho3, hb17⟩
    have HR17 := Lib.hid (show Below w9.heap.size w9 w17 from HR16.out.trans (hb17.mono (B' := w9.heap.size) HR16.out.size))
    have Ho3 := Lib.hid ho3.reads
    have Ho2 := Lib.hid (Ho2.out.below hb17)
    rw [show (nv ls).length = ls.length from nv_length ls] at Ho2 Ho3
    clear ho3
    go_wp2_with fail
    refine mixQ_normal (KeepsBut.of_below hb17) rfl ?_
    clear hb17
    refine mix_eff rfl ?_
    simp only [List.getElem_toArray, List.getElem_cons_zero, List.getElem_cons_succ]
    go_wp2_with fail
    refine (Hin.out _ _ _ _ _ Ho2.out Ho3.out).mono ?_
    rintro e w18 ⟨rfl, hb18⟩
    have HR18 := Lib.hid (show Below w9.heap.size w9 w18 from HR17.out.trans (hb18.mono (B' := w9.heap.size) HR17.out.size))
    go_wp2_with fail
    refine mixQ_normal (KeepsBut.of_below hb18) rfl ?_
    clear hb18
    repeat (first
      | (refine mix_pure (v := ?_) rfl rfl ?_ (mix_norm (a' := ?_) ?_ ?_)
         rotate_left
         focus (intro w' hR; go_simp; first | done | (with_reducible rfl))
         rotate_left
         focus (simp only [Act.put, List.getElem_toArray, List.getElem_cons_zero, List.getElem_cons_succ, List.setIfInBounds_toArray, List.set_cons_zero, List.set_cons_succ]; rfl))
      | (refine mix_off rfl rfl (mix_norm (a' := ?_) ?_ ?_)
         rotate_left
         focus (simp only [Act.put, List.getElem_toArray, List.getElem_cons_zero, List.getElem_cons_succ, List.setIfInBounds_toArray, List.set_cons_zero, List.set_cons_succ]; rfl)))
    refine mix_eff rfl ?_
    simp only [List.getElem_toArray, List.getElem_cons_zero, List.getElem_cons_succ]
    go_wp2_with fail
    refine (known10_any _ (tab_below HT9.out HR18.out (tab_lt HT9.out))).mono ?_
    rintro e w19 ⟨rfl, hb19⟩
    have HR19 := Lib.hid (show Below w9.heap.size w9 w19 from HR18.out.trans (hb19.mono (B' := w9.heap.size) HR18.out.size))
    go_wp2_with fail
    refine mixQ_normal (KeepsBut.of_below hb19) rfl ?_
    clear hb19
    repeat (first
      | (refine mix_pure (v := ?_) rfl rfl ?_ (mix_norm (a' := ?_) ?_ ?_)
         rotate_left
         focus (intro w' hR; go_simp; first | done | (with_reducible rfl))
         rotate_left
         focus (simp only [Act.put, List.getElem_toArray, List.getElem_cons_zero, List.getElem_cons_succ, List.setIfInBounds_toArray, List.set_cons_zero, List.set_cons_succ]; rfl))
      | (refine mix_off rfl rfl (mix_norm (a' := ?_) ?_ ?_)
         rotate_left
         focus (simp only [Act.put, List.getElem_toArray, List.getElem_cons_zero, List.getElem_cons_succ, List.setIfInBounds_toArray, List.set_cons_zero, List.set_cons_succ]; rfl)))
    refine mix_done ?_
    go_wp2_with fail
    go_ret
    exact ⟨rfl, HRa.out.trans (HR19.out.mono HRa.out.size)⟩
end Go.Proofs.YtiolfnnkkflaiaaDoor
