/- The walk of BitsPairs. -/
import Derived.Test.YtiolfnnkkflaiaaDoorBits5
import Derived.Test.YtiolfnnkkflaiaaDoorKeep
open Go.RowKit
namespace Go.Proofs.YtiolfnnkkflaiaaDoor

theorem eql_same (t : TypeId) (hu : Tryd.prog.underlying t = some (.array 2 23)) (hi : (Tryd.prog.info? 23).map (·.size) = some 1) (hp : Tryd.prog.plainKey 23 = true) (hc : Tryd.prog.cellsOf 23 = 1) (x y : Nat) (W : World) :
    (binOp .eql t (.agg #[.int .u64 x, .int .u64 y]) (.agg #[.int .u64 x, .int .u64 y])).run Tryd.prog W = .ok (.bool true) W := by
  have h := eql_u2 (P := Tryd.prog) hu Tryd.underlying23 hp hc hi (x : Int) (y : Int) (x : Int) (y : Int) W
  simpa using h
theorem eql_ref (x y : Nat) (W : World) : (binOp .eql 30 (.agg #[.int .u64 x, .int .u64 y]) (.agg #[.int .u64 x, .int .u64 y])).run Tryd.prog W = .ok (.bool true) W :=
  eql_same _ Tryd.underlying30 (by kernel_rfl) (by kernel_rfl) (by kernel_rfl) x y W
theorem eql_set (x y : Nat) (W : World) : (binOp .eql 26 (.agg #[.int .u64 x, .int .u64 y]) (.agg #[.int .u64 x, .int .u64 y])).run Tryd.prog W = .ok (.bool true) W :=
  eql_same _ Tryd.underlying26 (by kernel_rfl) (by kernel_rfl) (by kernel_rfl) x y W

set_option maxHeartbeats 2000000 in
set_option maxRecDepth 100000 in
theorem bitsPairs_any (a b c d : Nat) (ha : a < 18446744073709551616) (hb : b < 18446744073709551616) (hc : c < 18446744073709551616) (hd : d < 18446744073709551616) (w : World) (hT : TabAt 0 Lib.deBruijn64tab w) :
    Calls Tryd.prog 4 #[.agg #[.int .u64 a, .int .u64 b], .agg #[.int .u64 c, .int .u64 d]] w fun e w' => e = .returned (.bool true) ∧ Below w.heap.size w w' := by
  obtain ⟨hb1, hg1, hg2, hg3, hg4, hs1⟩ := alloc4 w #[.int .u64 a, .int .u64 b] 24 #[.int .u64 c, .int .u64 d] 24 #[.int .u64 a, .int .u64 b] 26 #[.int .u64 c, .int .u64 d] 26
  have Cor := Lib.hid (bitsOr_any a b c d ha hb hc hd)
  have Ror := Lib.hid (refOr_any a b c d ha hb hc hd)
  have Cmi := Lib.hid (bitsMinus_any a b c d ha hb hc hd)
  have Rmi := Lib.hid (refMinus_any a b c d ha hb hc hd)
  have N1 := Lib.hid (count_any (a ||| c) (b ||| d) (or_lt64 a c ha hc) (or_lt64 b d hb hd))
  have N2 := Lib.hid (count_any c d hc hd)
  have N3 := Lib.hid (count_any (andn a c) (andn b d) (andn_lt a c ha) (andn_lt b d hb))
  have Nl := Lib.hid (lst_or a b c d ha hb hc hd)
  have l1 : (lst c d).length ≤ 128 := by have := lst_length c d; have := lo_len c; have := lo_len d; omega
  have l2 : (lst (andn a c) (andn b d)).length ≤ 128 := by have := lst_length (andn a c) (andn b d); have := lo_len (andn a c); have := lo_len (andn b d); omega
  generalize (lst c d).length = n2 at N2 Nl l1
  generalize (lst (andn a c) (andn b d)).length = n3 at N3 Nl l2
  generalize (lst (a ||| c) (b ||| d)).length = n1 at N1 Nl
  generalize a ||| c = x0 at *
  generalize b ||| d = x1 at *
  generalize andn a c = y0 at *
  generalize andn b d = y1 at *
  clear ha hb hc hd
  go_enter Tryd.func4, Tryd.ntmps4
  go_wp2_with fail
  generalize (((w.alloc (.cells #[.int .u64 a, .int .u64 b] 24)).alloc (.cells #[.int .u64 c, .int .u64 d] 24)).alloc (.cells #[.int .u64 a, .int .u64 b] 26)).alloc (.cells #[.int .u64 c, .int .u64 d] 26) = w1 at hb1 hg1 hg2 hg3 hg4 hs1 ⊢
  have HT1 := Lib.hid (tab_below hT hb1 (tab_lt hT))
  have HB1 := Lib.hid hb1
  have Hs1 := Lib.hid (show w.heap.size + 4 ≤ w1.heap.size by omega)
  have G1 := Lib.hid hg1
  have G2 := Lib.hid hg2
  have G3 := Lib.hid hg3
  have G4 := Lib.hid hg4
  clear hb1 hg1 hg2 hg3 hg4 hs1 hT
  have HR1 := Lib.hid ((Below.refl w1.heap.size w1).drew)
  obtain ⟨p0, p1⟩ := keep2 G1.out HR1.out
  obtain ⟨p2, p3⟩ := keep2 G2.out HR1.out
  obtain ⟨p4, p5⟩ := keep2 G3.out HR1.out
  obtain ⟨p6, p7⟩ := keep2 G4.out HR1.out
  have q1 := eql_ref x0 x1
  have q2 := eql_ref y0 y1
  refine wp_region_mix (KeepsBut []) (KeepsBut.refl []) (KeepsBut.trans []) [] [(true, 0), (true, 1), (true, 3), (true, 4), (false, 2), (false, 5), (true, 6), (true, 7), (true, 8), (true, 9), (true, 11), (true, 12), (false, 10), (false, 13), (true, 14), (true, 15), (true, 16), (true, 17), (true, 18), (true, 21), (true, 23), (true, 24), (false, 19), (false, 20), (false, 22), (false, 25), (false, 26), (true, 27), (true, 28), (true, 29), (true, 30), (false, 31), (true, 32), (true, 33)] (by kernel_rfl) (by kernel_rfl) (fun d _ _ _ _ h => by cases d <;> exact h) ?_
  repeat (first
    | (refine mix_pure (v := ?_) rfl rfl ?_ (mix_norm (a' := ?_) ?_ ?_)
       rotate_left
       focus (intro w' hR; go_simp; first | done | (with_reducible rfl))
       rotate_left
       focus (simp only [Act.put, List.getElem_toArray, List.getElem_cons_zero, List.getElem_cons_succ, List.setIfInBounds_toArray, List.set_cons_zero, List.set_cons_succ]; rfl))
    | (refine mix_off rfl rfl (mix_norm (a' := ?_) ?_ ?_)
       rotate_left
       focus (simp only [Act.put, List.getElem_toArray, List.getElem_cons_zero, List.getElem_cons_succ, List.setIfInBounds_toArray, List.set_cons_zero, List.set_cons_succ]; rfl)))
  refine mix_eff rfl ?_
  simp only [List.getElem_toArray, List.getElem_cons_zero, List.getElem_cons_succ]
  go_wp2_with fail
  refine (Cor.out w1.drew).mono ?_
  rintro e w2 ⟨rfl, hb2⟩
  have HR2 := Lib.hid (show Below w1.heap.size w1 w2 from HR1.out.trans (hb2.mono (B' := w1.heap.size) HR1.out.size))
  go_wp2_with fail
  refine mixQ_normal (KeepsBut.of_below hb2) rfl ?_
  clear hb2
  refine mix_eff rfl ?_
  simp only [List.getElem_toArray, List.getElem_cons_zero, List.getElem_cons_succ]
  go_wp2_with fail
  refine (Ror.out w2).mono ?_
  rintro e w3 ⟨rfl, hb3⟩
  have HR3 := Lib.hid (show Below w1.heap.size w1 w3 from HR2.out.trans (hb3.mono (B' := w1.heap.size) HR2.out.size))
  go_wp2_with fail
  refine mixQ_normal (KeepsBut.of_below hb3) rfl ?_
  clear hb3
  clear p0 p1 p2 p3 p4 p5 p6 p7
  obtain ⟨p0, p1⟩ := keep2 G1.out HR3.out
  obtain ⟨p2, p3⟩ := keep2 G2.out HR3.out
  obtain ⟨p4, p5⟩ := keep2 G3.out HR3.out
  obtain ⟨p6, p7⟩ := keep2 G4.out HR3.out
  repeat (first
    | (refine mix_pure (v := ?_) rfl rfl ?_ (mix_norm (a' := ?_) ?_ ?_)
       rotate_left
       focus (intro w' hR; go_simp; first | done | (with_reducible rfl))
       rotate_left
       focus (simp only [Act.put, List.getElem_toArray, List.getElem_cons_zero, List.getElem_cons_succ, List.setIfInBounds_toArray, List.set_cons_zero, List.set_cons_succ]; rfl))
    | (refine mix_off rfl rfl (mix_norm (a' := ?_) ?_ ?_)
       rotate_left
       focus (simp only [Act.put, List.getElem_toArray, List.getElem_cons_zero, List.getElem_cons_succ, List.setIfInBounds_toArray, List.set_cons_zero, List.set_cons_succ]; rfl)))
  refine mix_eff rfl ?_
  simp only [List.getElem_toArray, List.getElem_cons_zero, List.getElem_cons_succ]
  go_wp2_with fail
  refine (Cmi.out w3).mono ?_
  rintro e w4 ⟨rfl, hb4⟩
  have HR4 := Lib.hid (show Below w1.heap.size w1 w4 from HR3.out.trans (hb4.mono (B' := w1.heap.size) HR3.out.size))
  go_wp2_with fail
  refine mixQ_normal (KeepsBut.of_below hb4) rfl ?_
  clear hb4
  refine mix_eff rfl ?_
  simp only [List.getElem_toArray, List.getElem_cons_zero, List.getElem_cons_succ]
  go_wp2_with fail
  refine (Rmi.out w4).mono ?_
  rintro e w5 ⟨rfl, hb5⟩
  have HR5 := Lib.hid (show Below w1.heap.size w1 w5 from HR4.out.trans (hb5.mono (B' := w1.heap.size) HR4.out.size))
  go_wp2_with fail
  refine mixQ_normal (KeepsBut.of_below hb5) rfl ?_
  clear hb5
  clear p0 p1 p2 p3 p4 p5 p6 p7
  obtain ⟨p0, p1⟩ := keep2 G1.out HR5.out
  obtain ⟨p2, p3⟩ := keep2 G2.out HR5.out
  obtain ⟨p4, p5⟩ := keep2 G3.out HR5.out
  obtain ⟨p6, p7⟩ := keep2 G4.out HR5.out
  repeat (first
    | (refine mix_pure (v := ?_) rfl rfl ?_ (mix_norm (a' := ?_) ?_ ?_)
       rotate_left
       focus (intro w' hR; go_simp; first | done | (with_reducible rfl))
       rotate_left
       focus (simp only [Act.put, List.getElem_toArray, List.getElem_cons_zero, List.getElem_cons_succ, List.setIfInBounds_toArray, List.set_cons_zero, List.set_cons_succ]; rfl))
    | (refine mix_off rfl rfl (mix_norm (a' := ?_) ?_ ?_)
       rotate_left
       focus (simp only [Act.put, List.getElem_toArray, List.getElem_cons_zero, List.getElem_cons_succ, List.setIfInBounds_toArray, List.set_cons_zero, List.set_cons_succ]; rfl)))
  clear p0 p1 p2 p3 p4 p5 p6 p7 q1 q2
  refine mix_eff rfl ?_
  simp only [List.getElem_toArray, List.getElem_cons_zero, List.getElem_cons_succ]
  go_wp2_with fail
  refine (Cor.out w5).mono ?_
  rintro e w6 ⟨rfl, hb6⟩
  have HR6 := Lib.hid (show Below w1.heap.size w1 w6 from HR5.out.trans (hb6.mono (B' := w1.heap.size) HR5.out.size))
  go_wp2_with fail
  refine mixQ_normal (KeepsBut.of_below hb6) rfl ?_
  clear hb6
  refine mix_eff rfl ?_
  simp only [List.getElem_toArray, List.getElem_cons_zero, List.getElem_cons_succ]
  go_wp2_with fail
  refine (N1.out w6).mono ?_
  rintro e w7 ⟨rfl, hb7⟩
  have HR7 := Lib.hid (show Below w1.heap.size w1 w7 from HR6.out.trans (hb7.mono (B' := w1.heap.size) HR6.out.size))
  go_wp2_with fail
  refine mixQ_normal (KeepsBut.of_below hb7) rfl ?_
  clear hb7
  refine mix_eff rfl ?_
  simp only [List.getElem_toArray, List.getElem_cons_zero, List.getElem_cons_succ]
  go_wp2_with fail
  refine (N2.out w7).mono ?_
  rintro e w8 ⟨rfl, hb8⟩
  have HR8 := Lib.hid (show Below w1.heap.size w1 w8 from HR7.out.trans (hb8.mono (B' := w1.heap.size) HR7.out.size))
  go_wp2_with fail
  refine mixQ_normal (KeepsBut.of_below hb8) rfl ?_
  clear hb8
  refine mix_eff rfl ?_
  simp only [List.getElem_toArray, List.getElem_cons_zero, List.getElem_cons_succ]
  go_wp2_with fail
  refine (Cmi.out w8).mono ?_
  rintro e w9 ⟨rfl, hb9⟩
  have HR9 := Lib.hid (show Below w1.heap.size w1 w9 from HR8.out.trans (hb9.mono (B' := w1.heap.size) HR8.out.size))
  go_wp2_with fail
  refine mixQ_normal (KeepsBut.of_below hb9) rfl ?_
  clear hb9
  refine mix_eff rfl ?_
  simp only [List.getElem_toArray, List.getElem_cons_zero, List.getElem_cons_succ]
  go_wp2_with fail
  refine (N3.out w9).mono ?_
  rintro e w10 ⟨rfl, hb10⟩
  have HR10 := Lib.hid (show Below w1.heap.size w1 w10 from HR9.out.trans (hb10.mono (B' := w1.heap.size) HR9.out.size))
  go_wp2_with fail
  refine mixQ_normal (KeepsBut.of_below hb10) rfl ?_
  clear hb10
  have hw : IntKind.i64.wrap ((n2 : Int) + (n3 : Int)) = (n2 : Int) + (n3 : Int) := IntWalk.i64_in _ (by omega)
  have hn : (n1 : Int) = (n2 : Int) + (n3 : Int) := by have := Nl.out; omega
  have hn2 : ((n1 : Int) == (n2 : Int) + (n3 : Int)) = true := by rw [hn]; simp
  clear hn
  repeat (first
    | (refine mix_pure (v := ?_) rfl rfl ?_ (mix_norm (a' := ?_) ?_ ?_)
       rotate_left
       focus (intro w' hR; go_simp; first | done | (with_reducible rfl))
       rotate_left
       focus (simp only [Act.put, List.getElem_toArray, List.getElem_cons_zero, List.getElem_cons_succ, List.setIfInBounds_toArray, List.set_cons_zero, List.set_cons_succ]; rfl))
    | (refine mix_off rfl rfl (mix_norm (a' := ?_) ?_ ?_)
       rotate_left
       focus (simp only [Act.put, List.getElem_toArray, List.getElem_cons_zero, List.getElem_cons_succ, List.setIfInBounds_toArray, List.set_cons_zero, List.set_cons_succ]; rfl)))
  clear hw hn2
  refine mix_eff rfl ?_
  simp only [List.getElem_toArray, List.getElem_cons_zero, List.getElem_cons_succ]
  go_wp2_with fail
  refine (known10_any w10 (tab_below HT1.out HR10.out (tab_lt HT1.out))).mono ?_
  rintro e w11 ⟨rfl, hb11⟩
  have HR11 := Lib.hid (show Below w1.heap.size w1 w11 from HR10.out.trans (hb11.mono (B' := w1.heap.size) HR10.out.size))
  go_wp2_with fail
  refine mixQ_normal (KeepsBut.of_below hb11) rfl ?_
  clear hb11
  repeat (first
    | (refine mix_pure (v := ?_) rfl rfl ?_ (mix_norm (a' := ?_) ?_ ?_)
       rotate_left
       focus (intro w' hR; go_simp; first | done | (with_reducible rfl))
       rotate_left
       focus (simp only [Act.put, List.getElem_toArray, List.getElem_cons_zero, List.getElem_cons_succ, List.setIfInBounds_toArray, List.set_cons_zero, List.set_cons_succ]; rfl))
    | (refine mix_off rfl rfl (mix_norm (a' := ?_) ?_ ?_)
       rotate_left
       focus (simp only [Act.put, List.getElem_toArray, List.getElem_cons_zero, List.getElem_cons_succ, List.setIfInBounds_toArray, List.set_cons_zero, List.set_cons_succ]; rfl)))
  refine mix_done ?_
  go_wp2_with fail
  go_ret
  exact ⟨rfl, HB1.out.trans (HR11.out.mono HB1.out.size)⟩
end Go.Proofs.YtiolfnnkkflaiaaDoor
