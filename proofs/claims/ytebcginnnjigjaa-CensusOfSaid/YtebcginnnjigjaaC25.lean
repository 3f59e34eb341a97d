import Derived.Test.YtebcginnnjigjaaC24
import Derived.Test.YtebcginnnjigjaaC18
import Derived.Test.YtebcginnnjigjaaC4
import Derived.Test.YtebcginnnjigjaaC23
import Derived.Test.YtebcginnnjigjaaC14
section
/- The reference's frames as bytes. -/
open Go.RowKit
namespace Go.Proofs.Ytebcginnnjigjaa

theorem bodyW_kinds {x : Fr} (h : bodyW x = false) : x.k = 1 ∨ x.k = 2 ∨ x.k = 3 ∨ x.k = 4 ∨ x.k = 5 ∨ x.k = 6 ∨ x.k = 7 := by
  unfold bodyW at h
  by_cases h1 : x.k = 1
  · omega
  by_cases h2 : x.k = 2
  · omega
  by_cases h35 : x.k = 3 ∨ x.k = 5
  · omega
  by_cases h4 : x.k = 4
  · omega
  by_cases h6 : x.k = 6
  · omega
  rw [if_neg h1, if_neg h2, if_neg h35, if_neg h4, if_neg h6] at h
  have := of_decide_eq_false h
  omega
set_option maxHeartbeats 4000000 in
set_option maxRecDepth 100000 in
theorem refFrPutA (w : World) (x : Fr) (A : Option Addr) (c : Nat) (hr : Reads w 1 A x.l.length (sts x.l)) (hok : FrOk x) (hB : (bodyL x).length ≤ 100000000) (hl : x.l.length ≤ 2000000) (bw : bodyW x = true) :
    Calls Try.prog 46 #[.agg (x.cells A c)] w fun e w' => ∃ s, e = .returned (.tuple #[.string s, .int .i64 (putE x : Nat)]) ∧ bl s = putL x ∧ Below w.heap.size w w' := by
  obtain ⟨hb, hg, _⟩ := alloc1 w (x.cells A c) 58
  have HBo := Lib.hid (refBody_any (w.alloc (.cells (x.cells A c) 58)) x A c (hr.below hb) hok hB hl)
  have Hr := Lib.hid hr
  have HLl := Lib.hid hl
  have HBd := Lib.hid hB
  have Hok := Lib.hid hok
  rw [bw] at HBo
  unfold Fr.cells at hg hb HBo ⊢
  obtain ⟨d0, d1, d2, d3, d4, d5, d6, d7, d8, d9, d10⟩ := cells11 hg
  have HG := Lib.hid hg
  have HB := Lib.hid hb
  clear hr hok hl hB hg hb
  go_enter Try.func46, Try.ntmps46
  go_wp2_with fail
  clear d0 d1 d2 d3 d4 d5 d6 d7 d8 d9 d10
  refine HBo.out.mono ?_
  rintro e w1 ⟨s, rfl, hs, hb⟩
  have HG := Lib.hid ((hb.block _ (Array.getElem?_eq_some_iff.1 HG.out).1).trans HG.out)
  have HB := Lib.hid (HB.out.trans (hb.mono HB.out.size))
  clear hb HBo
  have HE := Lib.hid (show putL x = [] ∧ putE x = 6 from ⟨by unfold putL putOk; rw [bw]; rfl, by unfold putE putOk; rw [bw]; rfl⟩)
  clear hs
  go_wp2_with fail
  have HG := Lib.hid (show (w1.drew).heap[w.heap.size]? = _ from HG.out)
  have HB := Lib.hid HB.out.drew
  obtain ⟨d0, d1, d2, d3, d4, d5, d6, d7, d8, d9, d10⟩ := keeps11 (M := []) (w := w1.drew) HG.out (by simp)
  refine wp_region_mix3 (KeepsBut []) (KeepsBut.refl []) (KeepsBut.trans []) [] [(0, 0), (0, 1), (0, 2), (1, 3), (1, 4), (2, 5), (2, 6), (0, 7), (0, 8)] (by kernel_rfl) (by kernel_rfl) (fun d _ _ _ _ h => by cases d <;> exact h) ?_
  generalize w1.drew = wd at HG HB d0 d1 d2 d3 d4 d5 d6 d7 d8 d9 d10 ⊢
  repeat ((first | (refine mix3_free (v := ?_) rfl rfl ?_ (mix3_norm (a' := ?_) ?_ ?_); rotate_left; focus (intro w'; go_simp; first | done | (with_reducible rfl))) | (refine mix3_pure (v := ?_) rfl rfl ?_ (mix3_norm (a' := ?_) ?_ ?_); rotate_left; focus (intro w' hR; go_simp; first | done | (with_reducible rfl))) | refine mix3_freeOff rfl rfl (mix3_norm (a' := ?_) ?_ ?_) | refine mix3_off rfl rfl (mix3_norm (a' := ?_) ?_ ?_)); rotate_left; focus (simp only [Act.put, List.getElem_toArray, List.getElem_cons_zero, List.getElem_cons_succ, List.setIfInBounds_toArray, List.set_cons_zero, List.set_cons_succ]; rfl))
  clear d0 d1 d2 d3 d4 d5 d6 d7 d8 d9 d10
  refine mix3_skip (KeepsBut.refl []) rfl rfl (mix3_norm (a' := ?_) ?_ ?_)
  rotate_left
  focus (simp only [Act.put, List.getElem_toArray, List.getElem_cons_zero, List.getElem_cons_succ, List.setIfInBounds_toArray, List.set_cons_zero, List.set_cons_succ]; rfl)
  refine mix3_skip (KeepsBut.refl []) rfl rfl (mix3_norm (a' := ?_) ?_ ?_)
  rotate_left
  focus (simp only [Act.put, List.getElem_toArray, List.getElem_cons_zero, List.getElem_cons_succ, List.setIfInBounds_toArray, List.set_cons_zero, List.set_cons_succ]; rfl)
  repeat ((first | (refine mix3_free (v := ?_) rfl rfl ?_ (mix3_norm (a' := ?_) ?_ ?_); rotate_left; focus (intro w'; go_simp; first | done | (with_reducible rfl))) | (refine mix3_pure (v := ?_) rfl rfl ?_ (mix3_norm (a' := ?_) ?_ ?_); rotate_left; focus (intro w' hR; go_simp; first | done | (with_reducible rfl))) | refine mix3_freeOff rfl rfl (mix3_norm (a' := ?_) ?_ ?_) | refine mix3_off rfl rfl (mix3_norm (a' := ?_) ?_ ?_)); rotate_left; focus (simp only [Act.put, List.getElem_toArray, List.getElem_cons_zero, List.getElem_cons_succ, List.setIfInBounds_toArray, List.set_cons_zero, List.set_cons_succ]; rfl))
  refine mix3_done ?_
  go_wp2_with fail
  go_ret2
  exact ⟨⟨#[]⟩, by rw [HE.out.2]; rfl, by rw [HE.out.1]; rfl, HB.out⟩
set_option maxHeartbeats 4000000 in
set_option maxRecDepth 100000 in
theorem refFrPutB (w : World) (x : Fr) (A : Option Addr) (c : Nat) (hr : Reads w 1 A x.l.length (sts x.l)) (hok : FrOk x) (hB : (bodyL x).length ≤ 100000000) (hl : x.l.length ≤ 2000000) (bw : bodyW x = false) (al : alikeB x (told x) = false) :
    Calls Try.prog 46 #[.agg (x.cells A c)] w fun e w' => ∃ s, e = .returned (.tuple #[.string s, .int .i64 (putE x : Nat)]) ∧ bl s = putL x ∧ Below w.heap.size w w' := by
  obtain ⟨hb, hg, _⟩ := alloc1 w (x.cells A c) 58
  have HBo := Lib.hid (refBody_any (w.alloc (.cells (x.cells A c) 58)) x A c (hr.below hb) hok hB hl)
  have Hr := Lib.hid hr
  have HLl := Lib.hid hl
  have HBd := Lib.hid hB
  have Hok := Lib.hid hok
  rw [bw] at HBo
  unfold Fr.cells at hg hb HBo ⊢
  obtain ⟨d0, d1, d2, d3, d4, d5, d6, d7, d8, d9, d10⟩ := cells11 hg
  have HG := Lib.hid hg
  have HB := Lib.hid hb
  clear hr hok hl hB hg hb
  go_enter Try.func46, Try.ntmps46
  go_wp2_with fail
  clear d0 d1 d2 d3 d4 d5 d6 d7 d8 d9 d10
  refine HBo.out.mono ?_
  rintro e w1 ⟨s, rfl, hs, hb⟩
  have HG := Lib.hid ((hb.block _ (Array.getElem?_eq_some_iff.1 HG.out).1).trans HG.out)
  have HB := Lib.hid (HB.out.trans (hb.mono HB.out.size))
  clear hb HBo
  have HE := Lib.hid (show putL x = [] ∧ putE x = 6 from ⟨by unfold putL putOk; rw [bw, al]; rfl, by unfold putE putOk; rw [bw, al]; rfl⟩)
  clear hs
  have hk7 := bodyW_kinds bw
  have HTo := Lib.hid (fun wx => refTold_any wx x A c hk7)
  unfold Fr.cells at HTo
  clear hk7
  go_wp2_with fail
  have HG := Lib.hid (show (w1.drew).heap[w.heap.size]? = _ from HG.out)
  have HB := Lib.hid HB.out.drew
  obtain ⟨d0, d1, d2, d3, d4, d5, d6, d7, d8, d9, d10⟩ := keeps11 (M := []) (w := w1.drew) HG.out (by simp)
  refine wp_region_mix3 (KeepsBut []) (KeepsBut.refl []) (KeepsBut.trans []) [] [(0, 0), (0, 1), (0, 2), (1, 3), (1, 4), (2, 5), (2, 6), (0, 7), (0, 8)] (by kernel_rfl) (by kernel_rfl) (fun d _ _ _ _ h => by cases d <;> exact h) ?_
  generalize w1.drew = wd at HG HB d0 d1 d2 d3 d4 d5 d6 d7 d8 d9 d10 ⊢
  repeat ((first | (refine mix3_free (v := ?_) rfl rfl ?_ (mix3_norm (a' := ?_) ?_ ?_); rotate_left; focus (intro w'; go_simp; first | done | (with_reducible rfl))) | (refine mix3_pure (v := ?_) rfl rfl ?_ (mix3_norm (a' := ?_) ?_ ?_); rotate_left; focus (intro w' hR; go_simp; first | done | (with_reducible rfl))) | refine mix3_freeOff rfl rfl (mix3_norm (a' := ?_) ?_ ?_) | refine mix3_off rfl rfl (mix3_norm (a' := ?_) ?_ ?_)); rotate_left; focus (simp only [Act.put, List.getElem_toArray, List.getElem_cons_zero, List.getElem_cons_succ, List.setIfInBounds_toArray, List.set_cons_zero, List.set_cons_succ]; rfl))
  clear d0 d1 d2 d3 d4 d5 d6 d7 d8 d9 d10
  refine mix3_eff rfl ?_
  simp only [List.getElem_toArray, List.getElem_cons_zero, List.getElem_cons_succ]
  go_wp2_with fail
  refine (HTo.out wd).mono ?_
  rintro e w2 ⟨rfl, hb⟩
  have HG := Lib.hid ((hb.block _ (Array.getElem?_eq_some_iff.1 HG.out).1).trans HG.out)
  have HB := Lib.hid (HB.out.trans (hb.mono HB.out.size))
  go_wp2_with fail
  refine mixQ3_normal (KeepsBut.of_below hb) rfl ?_
  clear hb HTo
  refine mix3_eff rfl ?_
  simp only [List.getElem_toArray, List.getElem_cons_zero, List.getElem_cons_succ]
  go_wp2_with fail
  have HAl := Lib.hid (refAlike_any x (told x) A (tA x A) c (tC x c) w2 (Hr.out.below HB.out) (told_reads (Hr.out.below HB.out)) HLl.out)
  rw [al] at HAl
  unfold Fr.cells at HAl
  refine HAl.out.mono ?_
  rintro e w3 ⟨rfl, hb⟩
  have HG := Lib.hid ((hb.block _ (Array.getElem?_eq_some_iff.1 HG.out).1).trans HG.out)
  have HB := Lib.hid (HB.out.trans (hb.mono HB.out.size))
  go_wp2_with fail
  refine mixQ3_normal (KeepsBut.of_below hb) rfl ?_
  clear hb HAl
  repeat ((first | (refine mix3_free (v := ?_) rfl rfl ?_ (mix3_norm (a' := ?_) ?_ ?_); rotate_left; focus (intro w'; go_simp; first | done | (with_reducible rfl))) | (refine mix3_pure (v := ?_) rfl rfl ?_ (mix3_norm (a' := ?_) ?_ ?_); rotate_left; focus (intro w' hR; go_simp; first | done | (with_reducible rfl))) | refine mix3_freeOff rfl rfl (mix3_norm (a' := ?_) ?_ ?_) | refine mix3_off rfl rfl (mix3_norm (a' := ?_) ?_ ?_)); rotate_left; focus (simp only [Act.put, List.getElem_toArray, List.getElem_cons_zero, List.getElem_cons_succ, List.setIfInBounds_toArray, List.set_cons_zero, List.set_cons_succ]; rfl))
  refine mix3_done ?_
  go_wp2_with fail
  go_ret2
  exact ⟨⟨#[]⟩, by rw [HE.out.2]; rfl, by rw [HE.out.1]; rfl, HB.out⟩
set_option maxHeartbeats 4000000 in
set_option maxRecDepth 100000 in
theorem refFrPutC (w : World) (x : Fr) (A : Option Addr) (c : Nat) (hr : Reads w 1 A x.l.length (sts x.l)) (hok : FrOk x) (hB : (bodyL x).length ≤ 100000000) (hl : x.l.length ≤ 2000000) (bw : bodyW x = false) (al : alikeB x (told x) = true) :
    Calls Try.prog 46 #[.agg (x.cells A c)] w fun e w' => ∃ s, e = .returned (.tuple #[.string s, .int .i64 (putE x : Nat)]) ∧ bl s = putL x ∧ Below w.heap.size w w' := by
  obtain ⟨hb, hg, _⟩ := alloc1 w (x.cells A c) 58
  have HBo := Lib.hid (refBody_any (w.alloc (.cells (x.cells A c) 58)) x A c (hr.below hb) hok hB hl)
  have Hr := Lib.hid hr
  have HLl := Lib.hid hl
  have HBd := Lib.hid hB
  have Hok := Lib.hid hok
  rw [bw] at HBo
  unfold Fr.cells at hg hb HBo ⊢
  obtain ⟨d0, d1, d2, d3, d4, d5, d6, d7, d8, d9, d10⟩ := cells11 hg
  have HG := Lib.hid hg
  have HB := Lib.hid hb
  clear hr hok hl hB hg hb
  go_enter Try.func46, Try.ntmps46
  go_wp2_with fail
  clear d0 d1 d2 d3 d4 d5 d6 d7 d8 d9 d10
  refine HBo.out.mono ?_
  rintro e w1 ⟨s, rfl, hs, hb⟩
  have HG := Lib.hid ((hb.block _ (Array.getElem?_eq_some_iff.1 HG.out).1).trans HG.out)
  have HB := Lib.hid (HB.out.trans (hb.mono HB.out.size))
  clear hb HBo
  have HE := Lib.hid (show putL x = headL x ++ bodyL x ++ be 4 (crcAdd 0 (headL x ++ bodyL x)) ∧ putE x = 0 from ⟨by unfold putL putOk; rw [bw, al]; rfl, by unfold putE putOk; rw [bw, al]; rfl⟩)
  have hk7 := bodyW_kinds bw
  have HTo := Lib.hid (fun wx => refTold_any wx x A c hk7)
  unfold Fr.cells at HTo
  clear hk7
  have hs := hs (by trivial)
  have hz : s.size ≤ 100000000 := by have h := HBd.out; rw [← hs, bl_length] at h; exact h
  have HS := Lib.hid hs
  have HZ := Lib.hid hz
  have wk := u64n_wrap x.k
  have wz := u64n_wrap ((s.size : Nat) : Int)
  have wq := wrap64_nat Hok.out.q64
  have z1 := t1s (u64n x.k)
  have z2 := t8s x.s
  have z3 := t8s x.e
  have z4 := t4s x.q
  have z5 := t2s (u64n (s.size : Nat))
  have a1 := addOk (txt 1 (u64n x.k)) (txt 8 x.s) (by (try simp only [ByteArray.size_append]); omega)
  have a2 := addOk (txt 1 (u64n x.k) ++ txt 8 x.s) (txt 8 x.e) (by (try simp only [ByteArray.size_append]); omega)
  have a3 := addOk (txt 1 (u64n x.k) ++ txt 8 x.s ++ txt 8 x.e) (txt 4 x.q) (by (try simp only [ByteArray.size_append]); omega)
  have a4 := addOk (txt 1 (u64n x.k) ++ txt 8 x.s ++ txt 8 x.e ++ txt 4 x.q) (txt 2 (u64n (s.size : Nat))) (by (try simp only [ByteArray.size_append]); omega)
  have a5 := addOk (txt 1 (u64n x.k) ++ txt 8 x.s ++ txt 8 x.e ++ txt 4 x.q ++ txt 2 (u64n (s.size : Nat))) (s) (by (try simp only [ByteArray.size_append]); omega)
  clear hs hz z1 z2 z3 z4 z5
  go_wp2_with fail
  have HG := Lib.hid (show (w1.drew).heap[w.heap.size]? = _ from HG.out)
  have HB := Lib.hid HB.out.drew
  obtain ⟨d0, d1, d2, d3, d4, d5, d6, d7, d8, d9, d10⟩ := keeps11 (M := []) (w := w1.drew) HG.out (by simp)
  refine wp_region_mix3 (KeepsBut []) (KeepsBut.refl []) (KeepsBut.trans []) [] [(0, 0), (0, 1), (0, 2), (1, 3), (1, 4), (2, 5), (2, 6), (0, 7), (0, 8)] (by kernel_rfl) (by kernel_rfl) (fun d _ _ _ _ h => by cases d <;> exact h) ?_
  generalize w1.drew = wd at HG HB d0 d1 d2 d3 d4 d5 d6 d7 d8 d9 d10 ⊢
  repeat ((first | (refine mix3_free (v := ?_) rfl rfl ?_ (mix3_norm (a' := ?_) ?_ ?_); rotate_left; focus (intro w'; go_simp; first | done | (with_reducible rfl))) | (refine mix3_pure (v := ?_) rfl rfl ?_ (mix3_norm (a' := ?_) ?_ ?_); rotate_left; focus (intro w' hR; go_simp; first | done | (with_reducible rfl))) | refine mix3_freeOff rfl rfl (mix3_norm (a' := ?_) ?_ ?_) | refine mix3_off rfl rfl (mix3_norm (a' := ?_) ?_ ?_)); rotate_left; focus (simp only [Act.put, List.getElem_toArray, List.getElem_cons_zero, List.getElem_cons_succ, List.setIfInBounds_toArray, List.set_cons_zero, List.set_cons_succ]; rfl))
  clear d0 d1 d2 d3 d4 d5 d6 d7 d8 d9 d10
  refine mix3_eff rfl ?_
  simp only [List.getElem_toArray, List.getElem_cons_zero, List.getElem_cons_succ]
  go_wp2_with fail
  refine (HTo.out wd).mono ?_
  rintro e w2 ⟨rfl, hb⟩
  have HG := Lib.hid ((hb.block _ (Array.getElem?_eq_some_iff.1 HG.out).1).trans HG.out)
  have HB := Lib.hid (HB.out.trans (hb.mono HB.out.size))
  go_wp2_with fail
  refine mixQ3_normal (KeepsBut.of_below hb) rfl ?_
  clear hb HTo
  refine mix3_eff rfl ?_
  simp only [List.getElem_toArray, List.getElem_cons_zero, List.getElem_cons_succ]
  go_wp2_with fail
  have HAl := Lib.hid (refAlike_any x (told x) A (tA x A) c (tC x c) w2 (Hr.out.below HB.out) (told_reads (Hr.out.below HB.out)) HLl.out)
  rw [al] at HAl
  unfold Fr.cells at HAl
  refine HAl.out.mono ?_
  rintro e w3 ⟨rfl, hb⟩
  have HG := Lib.hid ((hb.block _ (Array.getElem?_eq_some_iff.1 HG.out).1).trans HG.out)
  have HB := Lib.hid (HB.out.trans (hb.mono HB.out.size))
  go_wp2_with fail
  refine mixQ3_normal (KeepsBut.of_below hb) rfl ?_
  clear hb HAl
  repeat ((first | (refine mix3_free (v := ?_) rfl rfl ?_ (mix3_norm (a' := ?_) ?_ ?_); rotate_left; focus (intro w'; go_simp; first | done | (with_reducible rfl))) | (refine mix3_pure (v := ?_) rfl rfl ?_ (mix3_norm (a' := ?_) ?_ ?_); rotate_left; focus (intro w' hR; go_simp; first | done | (with_reducible rfl))) | refine mix3_freeOff rfl rfl (mix3_norm (a' := ?_) ?_ ?_) | refine mix3_off rfl rfl (mix3_norm (a' := ?_) ?_ ?_)); rotate_left; focus (simp only [Act.put, List.getElem_toArray, List.getElem_cons_zero, List.getElem_cons_succ, List.setIfInBounds_toArray, List.set_cons_zero, List.set_cons_succ]; rfl))
  refine mix3_done ?_
  go_wp2_with fail
  have HG := Lib.hid (show (w3.drew).heap[w.heap.size]? = _ from HG.out)
  have HB := Lib.hid HB.out.drew
  obtain ⟨d0, d1, d2, d3, d4, d5, d6, d7, d8, d9, d10⟩ := keeps11 (M := []) (w := w3.drew) HG.out (by simp)
  refine wp_region_mix3 (KeepsBut []) (KeepsBut.refl []) (KeepsBut.trans []) [] [(0, 0), (0, 4), (0, 8), (0, 12), (0, 17), (0, 18), (0, 22), (1, 1), (1, 2), (1, 5), (1, 9), (1, 13), (1, 14), (1, 19), (2, 3), (2, 6), (0, 7), (2, 10), (0, 11), (2, 15), (0, 16), (2, 20), (0, 21), (0, 23), (0, 24)] (by kernel_rfl) (by kernel_rfl) (fun d _ _ _ _ h => by cases d <;> exact h) ?_
  generalize w3.drew = wd at HG HB d0 d1 d2 d3 d4 d5 d6 d7 d8 d9 d10 ⊢
  repeat ((first | (refine mix3_free (v := ?_) rfl rfl ?_ (mix3_norm (a' := ?_) ?_ ?_); rotate_left; focus (intro w'; go_simp; first | done | (with_reducible rfl))) | (refine mix3_pure (v := ?_) rfl rfl ?_ (mix3_norm (a' := ?_) ?_ ?_); rotate_left; focus (intro w' hR; go_simp; first | done | (with_reducible rfl))) | refine mix3_freeOff rfl rfl (mix3_norm (a' := ?_) ?_ ?_) | refine mix3_off rfl rfl (mix3_norm (a' := ?_) ?_ ?_)); rotate_left; focus (simp only [Act.put, List.getElem_toArray, List.getElem_cons_zero, List.getElem_cons_succ, List.setIfInBounds_toArray, List.set_cons_zero, List.set_cons_succ]; rfl))
  clear d0 d1 d2 d3 d4 d5 d6 d7 d8 d9 d10
  refine mix3_eff rfl ?_
  simp only [List.getElem_toArray, List.getElem_cons_zero, List.getElem_cons_succ]
  go_wp2_with fail
  refine (text_any 1 (u64n x.k) (u64n_lt _) _).mono ?_
  rintro e w4 ⟨rfl, hb⟩
  have HB := Lib.hid (HB.out.trans (hb.mono HB.out.size))
  go_wp2_with fail
  refine mixQ3_normal (KeepsBut.of_below hb) rfl ?_
  clear hb
  repeat ((first | (refine mix3_free (v := ?_) rfl rfl ?_ (mix3_norm (a' := ?_) ?_ ?_); rotate_left; focus (intro w'; go_simp; first | done | (with_reducible rfl))) | (refine mix3_pure (v := ?_) rfl rfl ?_ (mix3_norm (a' := ?_) ?_ ?_); rotate_left; focus (intro w' hR; go_simp; first | done | (with_reducible rfl))) | refine mix3_freeOff rfl rfl (mix3_norm (a' := ?_) ?_ ?_) | refine mix3_off rfl rfl (mix3_norm (a' := ?_) ?_ ?_)); rotate_left; focus (simp only [Act.put, List.getElem_toArray, List.getElem_cons_zero, List.getElem_cons_succ, List.setIfInBounds_toArray, List.set_cons_zero, List.set_cons_succ]; rfl))
  refine mix3_eff rfl ?_
  simp only [List.getElem_toArray, List.getElem_cons_zero, List.getElem_cons_succ]
  go_wp2_with fail
  refine (text_any 8 (x.s) (Hok.out.1) _).mono ?_
  rintro e w5 ⟨rfl, hb⟩
  have HB := Lib.hid (HB.out.trans (hb.mono HB.out.size))
  go_wp2_with fail
  refine mixQ3_normal (KeepsBut.of_below hb) rfl ?_
  clear hb
  repeat ((first | (refine mix3_free (v := ?_) rfl rfl ?_ (mix3_norm (a' := ?_) ?_ ?_); rotate_left; focus (intro w'; go_simp; first | done | (with_reducible rfl))) | (refine mix3_pure (v := ?_) rfl rfl ?_ (mix3_norm (a' := ?_) ?_ ?_); rotate_left; focus (intro w' hR; go_simp; first | done | (with_reducible rfl))) | refine mix3_freeOff rfl rfl (mix3_norm (a' := ?_) ?_ ?_) | refine mix3_off rfl rfl (mix3_norm (a' := ?_) ?_ ?_)); rotate_left; focus (simp only [Act.put, List.getElem_toArray, List.getElem_cons_zero, List.getElem_cons_succ, List.setIfInBounds_toArray, List.set_cons_zero, List.set_cons_succ]; rfl))
  refine mix3_eff rfl ?_
  simp only [List.getElem_toArray, List.getElem_cons_zero, List.getElem_cons_succ]
  go_wp2_with fail
  refine (text_any 8 (x.e) (Hok.out.2.1) _).mono ?_
  rintro e w6 ⟨rfl, hb⟩
  have HB := Lib.hid (HB.out.trans (hb.mono HB.out.size))
  go_wp2_with fail
  refine mixQ3_normal (KeepsBut.of_below hb) rfl ?_
  clear hb
  repeat ((first | (refine mix3_free (v := ?_) rfl rfl ?_ (mix3_norm (a' := ?_) ?_ ?_); rotate_left; focus (intro w'; go_simp; first | done | (with_reducible rfl))) | (refine mix3_pure (v := ?_) rfl rfl ?_ (mix3_norm (a' := ?_) ?_ ?_); rotate_left; focus (intro w' hR; go_simp; first | done | (with_reducible rfl))) | refine mix3_freeOff rfl rfl (mix3_norm (a' := ?_) ?_ ?_) | refine mix3_off rfl rfl (mix3_norm (a' := ?_) ?_ ?_)); rotate_left; focus (simp only [Act.put, List.getElem_toArray, List.getElem_cons_zero, List.getElem_cons_succ, List.setIfInBounds_toArray, List.set_cons_zero, List.set_cons_succ]; rfl))
  refine mix3_eff rfl ?_
  simp only [List.getElem_toArray, List.getElem_cons_zero, List.getElem_cons_succ]
  go_wp2_with fail
  refine (text_any 4 (x.q) (Hok.out.q64) _).mono ?_
  rintro e w7 ⟨rfl, hb⟩
  have HB := Lib.hid (HB.out.trans (hb.mono HB.out.size))
  go_wp2_with fail
  refine mixQ3_normal (KeepsBut.of_below hb) rfl ?_
  clear hb
  repeat ((first | (refine mix3_free (v := ?_) rfl rfl ?_ (mix3_norm (a' := ?_) ?_ ?_); rotate_left; focus (intro w'; go_simp; first | done | (with_reducible rfl))) | (refine mix3_pure (v := ?_) rfl rfl ?_ (mix3_norm (a' := ?_) ?_ ?_); rotate_left; focus (intro w' hR; go_simp; first | done | (with_reducible rfl))) | refine mix3_freeOff rfl rfl (mix3_norm (a' := ?_) ?_ ?_) | refine mix3_off rfl rfl (mix3_norm (a' := ?_) ?_ ?_)); rotate_left; focus (simp only [Act.put, List.getElem_toArray, List.getElem_cons_zero, List.getElem_cons_succ, List.setIfInBounds_toArray, List.set_cons_zero, List.set_cons_succ]; rfl))
  refine mix3_eff rfl ?_
  simp only [List.getElem_toArray, List.getElem_cons_zero, List.getElem_cons_succ]
  go_wp2_with fail
  refine (text_any 2 (u64n (s.size : Nat)) (u64n_lt _) _).mono ?_
  rintro e w8 ⟨rfl, hb⟩
  have HB := Lib.hid (HB.out.trans (hb.mono HB.out.size))
  go_wp2_with fail
  refine mixQ3_normal (KeepsBut.of_below hb) rfl ?_
  clear hb
  repeat ((first | (refine mix3_free (v := ?_) rfl rfl ?_ (mix3_norm (a' := ?_) ?_ ?_); rotate_left; focus (intro w'; go_simp; first | done | (with_reducible rfl))) | (refine mix3_pure (v := ?_) rfl rfl ?_ (mix3_norm (a' := ?_) ?_ ?_); rotate_left; focus (intro w' hR; go_simp; first | done | (with_reducible rfl))) | refine mix3_freeOff rfl rfl (mix3_norm (a' := ?_) ?_ ?_) | refine mix3_off rfl rfl (mix3_norm (a' := ?_) ?_ ?_)); rotate_left; focus (simp only [Act.put, List.getElem_toArray, List.getElem_cons_zero, List.getElem_cons_succ, List.setIfInBounds_toArray, List.set_cons_zero, List.set_cons_succ]; rfl))
  refine mix3_done ?_
  clear a1 a2 a3 a4 a5 wk wz wq
  have HX := Lib.hid (show bl (txt 1 (u64n x.k) ++ txt 8 x.s ++ txt 8 x.e ++ txt 4 x.q ++ txt 2 (u64n (s.size : Nat)) ++ s) = headL x ++ bodyL x by
    simp only [bl_append, t1b, t8b, t4b, t2b]
    unfold headL
    rw [← HS.out, bl_length])
  obtain ⟨T, hT⟩ : ∃ T, txt 1 (u64n x.k) ++ txt 8 x.s ++ txt 8 x.e ++ txt 4 x.q ++ txt 2 (u64n (s.size : Nat)) ++ s = T := ⟨_, rfl⟩
  have HTs := Lib.hid (show T.size ≤ 100000023 by
    have h := congrArg List.length HX.out
    rw [bl_length, hT] at h
    have h2 := HBd.out
    unfold headL at h
    simp only [List.length_append, be_length] at h
    omega)
  rw [hT] at HX ⊢
  clear hT
  go_wp2_with (refine wpList_bytes_of rfl (.tmp 46) rfl T rfl ?_)
  intro A1 c1 w9 hr1 hc1 hb
  have HB := Lib.hid (HB.out.trans (hb.mono HB.out.size))
  have HQ := Lib.hid (refSum_any A1 (bl T) c1 w9 hr1 (by rw [bl_length]; have := HTs.out; unfold maxLen; omega))
  have hcl := crcAdd_lt 0 (bl T)
  have wc := wrap64_nat (show crcAdd 0 (bl T) < 18446744073709551616 by omega)
  have HCl := Lib.hid hcl
  clear hr1 hc1 hb hcl
  go_wp2_with fail
  refine HQ.out.mono ?_
  rintro e w' ⟨rfl, rfl⟩
  have ha := addOk T (txt 4 (crcAdd 0 (bl T))) (by have := HTs.out; have := t4s (crcAdd 0 (bl T)); omega)
  go_wp2_with fail
  refine (text_any 4 (crcAdd 0 (bl T)) (by have := HCl.out; omega) _).mono ?_
  rintro e w10 ⟨rfl, hb⟩
  have HB := Lib.hid (HB.out.trans (hb.mono HB.out.size))
  clear hb HQ
  go_wp2_with fail
  go_ret2
  exact ⟨T ++ txt 4 (crcAdd 0 (bl T)), by rw [HE.out.2]; rfl, by rw [HE.out.1, bl_append, t4b, HX.out], HB.out⟩
theorem refFrPut_any (w : World) (x : Fr) (A : Option Addr) (c : Nat) (hr : Reads w 1 A x.l.length (sts x.l)) (hok : FrOk x) (hB : (bodyL x).length ≤ 100000000) (hl : x.l.length ≤ 2000000) :
    Calls Try.prog 46 #[.agg (x.cells A c)] w fun e w' => ∃ s, e = .returned (.tuple #[.string s, .int .i64 (putE x : Nat)]) ∧ bl s = putL x ∧ Below w.heap.size w w' := by
  cases bw : bodyW x with
  | true => exact refFrPutA w x A c hr hok hB hl bw
  | false =>
    cases al : alikeB x (told x) with
    | false => exact refFrPutB w x A c hr hok hB hl bw al
    | true => exact refFrPutC w x A c hr hok hB hl bw al
end Go.Proofs.Ytebcginnnjigjaa

end
section
/- The reference's reader with its bytes ahead of it; the world in the midst of the reference's frame.Get. -/
open Go.RowKit
namespace Go.Proofs.Ytebcginnnjigjaa

/-- Block g is a reference's reader in the state s; its bytes lie in blocks ahead of g. -/
def IsSB (w : World) (g : Nat) (s : RdS) : Prop :=
  ∃ A c B k, IsS w g A c B k s.2 ∧ B.drop k = s.1 ∧ ∀ W, SameTo g w W → Reads W 1 A B.length (bv B)
section
variable {w w' : World} {g : Nat} {s : RdS}
theorem IsSB.lt (h : IsSB w g s) : g < w.heap.size := by
  obtain ⟨A, c, B, k, h1, _⟩ := h
  exact h1.lt
theorem IsSB.keep (h : IsSB w g s) (h' : SameTo (g + 1) w w') : IsSB w' g s := by
  obtain ⟨A, c, B, k, h1, h2, h3⟩ := h
  exact ⟨A, c, B, k, ⟨(h' g (by omega)).trans h1.1, h3 w' (fun i hi => h' i (by omega)), h1.2.2⟩, h2, fun W hW => h3 W (SameTo.trans (fun i hi => h' i (by omega)) hW)⟩
theorem IsSB.below (h : IsSB w g s) (hb : Below w.heap.size w w') : IsSB w' g s := h.keep (fun k hk => hb.block k (by have := h.lt; omega))
end
/-- What a step of it leaves. -/
def QPost (w : World) (g : Nat) (s : RdS) (w' : World) : Prop := IsSB w' g s ∧ Chg (fun i => i = g) w w'
theorem keepsTo {w W : World} {g : Nat} (hg : g ≤ w.heap.size) (h : KeepsBut [g] w W) : SameTo g w W := fun k hk => h.2 k (by omega) (by simp; omega)
theorem newSB {w : World} {A : Option Addr} {c : Nat} {B : List UInt8} (hr : Reads w 1 A B.length (bv B)) (hc : B.length ≤ c) (hm : B.length ≤ maxLen) :
    IsSB (w.alloc (.cells #[.slice A B.length c, .int .i64 0, .int .i64 0] 99)) w.heap.size (B, 0) := by
  have hk : ∀ W, SameTo w.heap.size (w.alloc (.cells #[.slice A B.length c, .int .i64 0, .int .i64 0] 99)) W → Reads W 1 A B.length (bv B) := fun W hW =>
    hr.keep fun p u hp => by
      have hlt := World.block_lt_of_cell? _ _ hp
      have h2 := hW _ hlt
      rw [heap_alloc_old _ _ hlt] at h2
      rw [← hp]
      unfold World.cell?
      rw [h2]
  exact ⟨A, c, B, 0, ⟨heap_alloc_new _ _, hk _ (SameTo.refl _ _), hc, hm, Nat.zero_le _⟩, List.drop_zero, hk⟩

theorem numSB_any {w : World} {g : Nat} {s : RdS} (h : IsSB w g s) (x : Nat) :
    Calls Try.prog 42 #[.pointer (some ⟨g, 0, none⟩), .int .i64 (x : Int)] w fun r w' => r = .returned (.int .u64 (nN s x : Nat)) ∧ QPost w g (nS s x) w' := by
  obtain ⟨A, c, B, k, h1, h2, h3⟩ := h
  refine (refNum_any g A c B k s.2 (x : Int) w h1).mono ?_
  rintro r w' ⟨e1, ⟨k', e2, e3⟩, e4⟩
  rw [h2] at e1 e2 e3
  refine ⟨by rw [e1]; unfold nN; rfl, ⟨A, c, B, k', ?_, ?_, fun W hW => h3 W ((SameTo.grown h1.lt e4).trans hW)⟩, (Chg.of_grown e4).mono (fun i _ hi => Option.some.inj hi)⟩
  · unfold nS; exact e2
  · unfold nS; exact e3
theorem bytesSB_any {w : World} {g : Nat} {s : RdS} (h : IsSB w g s) (x : Nat) :
    Calls Try.prog 45 #[.pointer (some ⟨g, 0, none⟩), .int .i64 (x : Int)] w fun r w' => ∃ A1 n c1, r = .returned (.slice A1 n c1) ∧ (∀ W, SameTo g w' W → (convert 61 9 (.slice A1 n c1)).run Try.prog W = .ok (.string (tN s x)) W) ∧ QPost w g (tS s x) w' := by
  obtain ⟨A, c, B, k, h1, h2, h3⟩ := h
  refine (refBytes_any g A c B k s.2 (x : Int) w h1).mono ?_
  rintro r w' ⟨A1, c1, e1, er, ⟨k', e2, e3⟩, e4⟩
  rw [h2] at e1 e2 e3 er
  have hs := SameTo.grown h1.lt e4
  refine ⟨A1, _, c1, e1, fun W hW => ?_, ⟨A, c, B, k', ?_, ?_, fun W hW => h3 W (hs.trans hW)⟩, (Chg.of_grown e4).mono (fun i _ hi => Option.some.inj hi)⟩
  · have h4 := run_string_of_bytes c1 (er W (h3 W (hs.trans hW)))
    unfold tN
    exact h4
  · unfold tS; exact e2
  · unfold tS; exact e3
/-- In the midst of it: the result's cells at b2, the reader at g, the frame at bf, its list's texts at A, behind all those. -/
structure QS (w0 : World) (b2 g bf : Nat) (cs : Array Value) (A : Option Addr) (c : Nat) (L : List ByteArray) (s : RdS) (w : World) : Prop where
  b : Below w0.heap.size w0 w
  h2 : w.heap[b2]? = some (.cells fr0c 58 (0, 0))
  hbf : w.heap[bf]? = some (.cells cs 58 (0, 0))
  rd : IsSB w g s
  row : SRow w A c L
  n2 : w0.heap.size ≤ b2
  n3 : b2 < g
  n5 : g < bf
  n6 : ∀ k, blk A = some k → bf < k
/-- As QS, ahead of the frame's own block. -/
structure QS0 (w0 : World) (b2 g : Nat) (s : RdS) (w : World) : Prop where
  b : Below w0.heap.size w0 w
  h2 : w.heap[b2]? = some (.cells fr0c 58 (0, 0))
  rd : IsSB w g s
  n2 : w0.heap.size ≤ b2
  n3 : b2 < g
section
variable {w0 w w' : World} {b2 g bf : Nat} {cs : Array Value} {A : Option Addr} {c : Nat} {L : List ByteArray} {s s' : RdS}
theorem QS.lt (h : QS w0 b2 g bf cs A c L s w) : bf < w.heap.size := (Array.getElem?_eq_some_iff.1 h.hbf).1
theorem QS0.step (h : QS0 w0 b2 g s w) (hp : QPost w g s' w') : QS0 w0 b2 g s' w' := by
  have hlt := h.rd.lt
  have n2 := h.n2; have n3 := h.n3
  exact ⟨h.b.trans (hp.2.below (fun i hi e => by omega) h.b.size), (hp.2.block b2 (by omega) (by omega)).trans h.h2, hp.1, n2, n3⟩
theorem QS.step (h : QS w0 b2 g bf cs A c L s w) (hp : QPost w g s' w') : QS w0 b2 g bf cs A c L s' w' := by
  have hlt := h.lt
  have n2 := h.n2; have n3 := h.n3; have n5 := h.n5
  exact ⟨h.b.trans (hp.2.below (fun i hi e => by omega) h.b.size), (hp.2.block b2 (by omega) (by omega)).trans h.h2, (hp.2.block bf hlt (by omega)).trans h.hbf, hp.1,
    h.row.chg hp.2 (fun k hk e => by have := h.n6 k hk; omega), n2, n3, n5, h.n6⟩
theorem QS.below (h : QS w0 b2 g bf cs A c L s w) (hb : Below w.heap.size w w') : QS w0 b2 g bf cs A c L s w' := by
  have hlt := h.lt
  have n2 := h.n2; have n3 := h.n3; have n5 := h.n5
  exact ⟨h.b.trans (hb.mono h.b.size), (hb.block b2 (by omega)).trans h.h2, (hb.block bf hlt).trans h.hbf, h.rd.below hb, h.row.below hb, n2, n3, n5, h.n6⟩
theorem QS0.below (h : QS0 w0 b2 g s w) (hb : Below w.heap.size w w') : QS0 w0 b2 g s w' := by
  have hlt := h.rd.lt
  have n2 := h.n2; have n3 := h.n3
  exact ⟨h.b.trans (hb.mono h.b.size), (hb.block b2 (by omega)).trans h.h2, h.rd.below hb, n2, n3⟩
theorem QS.set (h : QS w0 b2 g bf cs A c L s w) (j : Nat) (v : Value) : QS w0 b2 g bf (cs.setIfInBounds j v) A c L s (w.setCell ⟨bf, j, none⟩ v) := by
  have hlt := h.lt
  have n2 := h.n2; have n3 := h.n3; have n5 := h.n5
  have hc : Chg (fun i => i = bf) w (w.setCell ⟨bf, j, none⟩ v) := (Chg.refl _ w).set bf j v (fun _ => rfl)
  exact ⟨h.b.trans (hc.below (fun i hi e => by omega) h.b.size), (hc.block b2 (by omega) (by omega)).trans h.h2, by rw [heap_setCell_same _ _ _ _ _ _ h.hbf],
    h.rd.keep (fun k hk => hc.block k (by omega) (by omega)), h.row.chg hc (fun k hk e => by have := h.n6 k hk; omega), n2, n3, n5, h.n6⟩
theorem QS.rowTo (h : QS w0 b2 g bf cs A c L s w) {A1 : Option Addr} {c1 : Nat} {L1 : List ByteArray} (hr : SRow w' A1 c1 L1) (hc : Chg (fun i => blk A = some i) w w') (hk : ∀ k, blk A1 = some k → blk A = some k ∨ k = w.heap.size) : QS w0 b2 g bf cs A1 c1 L1 s w' := by
  have hlt := h.lt
  have n2 := h.n2; have n3 := h.n3; have n5 := h.n5
  exact ⟨h.b.trans (hc.below (fun i hi e => by have := h.n6 i e; omega) h.b.size), (hc.block b2 (by omega) (fun e => by have := h.n6 _ e; omega)).trans h.h2, (hc.block bf (by omega) (fun e => by have := h.n6 _ e; omega)).trans h.hbf,
    h.rd.keep (fun k hk => hc.block k (by omega) (fun e => by have := h.n6 _ e; omega)), hr, n2, n3, n5, fun k h1 => by rcases hk k h1 with h2 | h2; exact h.n6 k h2; omega⟩
/-- The frame's block laid. -/
theorem QS0.frame (h : QS0 w0 b2 g s w) (x : Array Value) : QS w0 b2 g w.heap.size x none 0 [] s (w.alloc (.cells x 58)) := by
  have h1 := h.below (w' := w.alloc (.cells x 58)) (alloc1 w _ _).1
  exact ⟨h1.b, h1.h2, (alloc1 w _ _).2.1, h1.rd, SRow.nil _, h1.n2, h1.n3, h.rd.lt, by simp [blk]⟩
theorem QS.drew (h : QS w0 b2 g bf cs A c L s w) : QS w0 b2 g bf cs A c L s w.drew := h.below ((Below.refl _ _).drew)
theorem QS.fin (h : QS w0 b2 g bf cs A c L s w) (hc : Chg (fun i => i = b2) w w') : SOut w0 w' A c L := by
  have n2 := h.n2; have n3 := h.n3; have n5 := h.n5
  exact ⟨h.row.chg hc (fun k hk e => by have := h.n6 k hk; omega), fun k hk => by have := h.n6 k hk; omega, h.b.trans (hc.below (fun i hi e => by omega) h.b.size)⟩
theorem QS.zero (h : QS w0 b2 g bf cs A c L s w) (hc : Chg (fun i => i = b2) w w') : Below w0.heap.size w0 w' := (h.fin hc).2.2
end
end Go.Proofs.Ytebcginnnjigjaa

end
section
/- The reference's frame.Get walked. -/
open Go.RowKit
namespace Go.Proofs.Ytebcginnnjigjaa

theorem sum_txt {l : List UInt8} {n : Nat} (h : l.length = 27 + n) {S : ByteArray} (hS : bl S = l.drop (23 + n)) {C : Nat} (hC : C < 4294967296) : gNum l (23 + n : Nat) 4 = C ↔ txt 4 C = S := by
  have hl : (l.drop (23 + n)).length = 4 := by rw [List.length_drop]; omega
  rw [gNum_ok (gErr_ok (by omega) (by omega)), Int.toNat_natCast, List.take_of_length_le (by rw [hl]; decide)]
  constructor
  · intro e
    refine bl_inj ?_
    rw [t4b, hS, ← e, be_beNum 4 _ hl]
  · intro e
    rw [← hS, ← e, t4b, beNum_be]
    exact Nat.mod_eq_of_lt hC
theorem bl_extract_to (s : ByteArray) (k : Nat) : bl (s.extract 0 k) = (bl s).take k := by
  simp [bl, ByteArray.data_extract]
theorem bl_extract_from (s : ByteArray) (k : Nat) : bl (s.extract k s.size) = (bl s).drop k := by
  simp [bl, ByteArray.data_extract]
  exact List.take_of_length_le (by rw [List.length_drop]; exact Nat.le_refl _)
theorem cutS_to (s : ByteArray) (k : Nat) (h : k ≤ s.size) : ∀ W : World, (Instr.slice 9 (.string s) none (some (.int .i64 (k : Int))) none).run Try.prog W = .ok (.string (s.extract 0 k)) W := fun W => by
  have h := run_slice_string_h (P := Try.prog) W 9 s Try.underlying9 .i64 (k : Int) (by omega) (by omega)
  rwa [Int.toNat_natCast] at h
theorem cutS_from (s : ByteArray) (k : Nat) (h : k ≤ s.size) : ∀ W : World, (Instr.slice 9 (.string s) (some (.int .i64 (k : Int))) none none).run Try.prog W = .ok (.string (s.extract k s.size)) W := fun W => by
  have h := run_slice_string_l (P := Try.prog) W 9 s Try.underlying9 .i64 (k : Int) (by omega) (by omega)
  rwa [Int.toNat_natCast] at h

theorem fin_ok {w w' : World} {l : List UInt8} {X : Fr} {sf : RdS} {A : Option Addr} {c : Nat} (he : getE l = 0) {v : Value} (hx : readF l = (X, sf)) (hv : v = .tuple #[.agg (X.cells A c), .int .i64 0]) (hs : SOut w w' A c X.l) :
    ∃ A c, Ending.returned v = .returned (.tuple #[.agg ((getX l).cells A c), .int .i64 (getE l : Nat)]) ∧ SOut w w' A c (getX l).l := by
  subst hv
  rw [getX_ok he, he, hx]
  exact ⟨A, c, rfl, hs⟩
set_option maxHeartbeats 8000000 in
set_option maxRecDepth 100000 in
theorem refFrGet_any (w : World) (s : ByteArray) (hl : s.size ≤ 1000000) :
    Calls Try.prog 27 #[.string s] w fun e w' => ∃ A c, e = .returned (.tuple #[.agg ((getX (bl s)).cells A c), .int .i64 (getE (bl s) : Nat)]) ∧ SOut w w' A c (getX (bl s)).l := by
  obtain ⟨hb1, hg1, hs1⟩ := alloc1 w fr0c 58
  by_cases h1 : s.size < 27
  · have HE := Lib.hid (getE_1 (l := bl s) h1)
    have HB := Lib.hid hb1
    have H2 := Lib.hid hg1
    unfold fr0c at HB H2
    clear hb1 hg1 hs1
    go_enter Try.func27, Try.ntmps27
    go_wp2_with fail
    refine bodyPost_ret (results_cell_tmp_row rfl _ _ w.heap.size _ _ _ _ rfl H2.out Try.underlying58 rfl (by kernel_rfl)) rfl ?_
    exact get_zero HE.out (by decide) (by rfl) HB.out
  have HL := Lib.hid hl
  have H1 := Lib.hid h1
  have HA := Lib.hid (And.intro hb1 (And.intro hg1 hs1))
  unfold fr0c at HA
  clear hb1 hg1 hs1
  go_enter Try.func27, Try.ntmps27
  go_wp2_with (refine wpList_bytes_of rfl (.tmp 15) rfl s rfl ?_)
  intro A1 c1 w1 hr1 hc1 hb
  have HS := Lib.hid (show QS0 w w.heap.size w1.heap.size (bl s, 0) (w1.alloc (.cells #[.slice A1 (bl s).length c1, .int .i64 0, .int .i64 0] 99)) from by
    obtain ⟨a1, a2, a3⟩ := HA.out
    have hsz := hb.size
    rw [a3] at hsz
    have hb' := (alloc1 w1 #[.slice A1 (bl s).length c1, .int .i64 0, .int .i64 0] 99).1
    refine ⟨(a1.trans (hb.mono (by omega))).trans (hb'.mono (by omega)), ?_, newSB hr1 hc1 (by have := HL.out; unfold maxLen; rw [bl_length]; omega), Nat.le_refl _, by omega⟩
    exact ((hb'.block _ (by omega)).trans (hb.block _ (by omega))).trans a2)
  clear hr1 hc1 hb HA
  go_wp2_with fail
  generalize w1.alloc _ = w2 at HS ⊢
  generalize w1.heap.size = g at HS ⊢
  have HG := Lib.hid (gLen_eq (l := bl s) (by rw [bl_length]; omega))
  clear h1
  refine (numSB_any HS.out.rd 1).mono ?_
  rintro e w3 ⟨rfl, hp⟩
  have HS := Lib.hid (HS.out.step hp)
  clear hp
  have hw1 := wrapI_nat (n := nN (bl s, 0) 1) (Nat.lt_trans (nN_lt _ _) (by decide))
  go_wp2_with fail
  have HS := Lib.hid (HS.out.frame #[.int .i64 (nN (bl s, 0) 1 : Nat), .int .u64 0, .int .u64 0, .int .u32 0, .int .u32 0, .int .i64 0, .int .i64 0, .int .i64 0, .int .i64 0, .string ⟨#[]⟩, .slice none 0 0])
  clear hw1
  generalize w3.alloc _ = w4 at HS ⊢
  generalize w3.heap.size = bf at HS ⊢
  refine (numSB_any HS.out.rd 8).mono ?_
  rintro e w5a ⟨rfl, hp⟩
  have HS := Lib.hid (HS.out.step hp)
  clear hp
  obtain ⟨d0, d1, d2, d3, d4, d5, d6, d7, d8, d9, d10⟩ := cells11 HS.out.hbf
  obtain ⟨t0, t1, t2, t3, t4, t5, t6, t7, t8, t9, t10⟩ := froz11 HS.out.hbf
  go_wp2_with fail
  have HS := Lib.hid (HS.out.set 1 (.int .u64 (nN (nS (bl s, 0) 1) 8 : Nat)))
  simp only [List.setIfInBounds_toArray, List.set_cons_zero, List.set_cons_succ] at HS
  clear d0 d1 d2 d3 d4 d5 d6 d7 d8 d9 d10 t0 t1 t2 t3 t4 t5 t6 t7 t8 t9 t10
  generalize w5a.setCell ⟨bf, 1, none⟩ _ = w5 at HS ⊢
  go_wp2_with fail
  refine (numSB_any HS.out.rd 8).mono ?_
  rintro e w6a ⟨rfl, hp⟩
  have HS := Lib.hid (HS.out.step hp)
  clear hp
  obtain ⟨d0, d1, d2, d3, d4, d5, d6, d7, d8, d9, d10⟩ := cells11 HS.out.hbf
  obtain ⟨t0, t1, t2, t3, t4, t5, t6, t7, t8, t9, t10⟩ := froz11 HS.out.hbf
  go_wp2_with fail
  have HS := Lib.hid (HS.out.set 2 (.int .u64 (nN (nS (nS (bl s, 0) 1) 8) 8 : Nat)))
  simp only [List.setIfInBounds_toArray, List.set_cons_zero, List.set_cons_succ] at HS
  clear d0 d1 d2 d3 d4 d5 d6 d7 d8 d9 d10 t0 t1 t2 t3 t4 t5 t6 t7 t8 t9 t10
  generalize w6a.setCell ⟨bf, 2, none⟩ _ = w6 at HS ⊢
  go_wp2_with fail
  have hw32 := wrap32_nat (nN_lt (nS (nS (nS (bl s, 0) 1) 8) 8) 4)
  refine (numSB_any HS.out.rd 4).mono ?_
  rintro e w7a ⟨rfl, hp⟩
  have HS := Lib.hid (HS.out.step hp)
  clear hp
  obtain ⟨d0, d1, d2, d3, d4, d5, d6, d7, d8, d9, d10⟩ := cells11 HS.out.hbf
  obtain ⟨t0, t1, t2, t3, t4, t5, t6, t7, t8, t9, t10⟩ := froz11 HS.out.hbf
  go_wp2_with fail
  have HS := Lib.hid (HS.out.set 3 (.int .u32 (nN (nS (nS (nS (bl s, 0) 1) 8) 8) 4 : Nat)))
  simp only [List.setIfInBounds_toArray, List.set_cons_zero, List.set_cons_succ] at HS
  clear d0 d1 d2 d3 d4 d5 d6 d7 d8 d9 d10 t0 t1 t2 t3 t4 t5 t6 t7 t8 t9 t10
  generalize w7a.setCell ⟨bf, 3, none⟩ _ = w7 at HS ⊢
  clear hw32
  go_wp2_with fail
  refine (numSB_any HS.out.rd 2).mono ?_
  rintro e w8 ⟨rfl, hp⟩
  have HS := Lib.hid (HS.out.step hp)
  clear hp
  obtain ⟨n, hn⟩ : ∃ n, nN (nS (nS (nS (nS (bl s, 0) 1) 8) 8) 4) 2 = n := ⟨_, rfl⟩
  have hn16 : n < 65536 := by rw [← hn]; exact nN_lt _ _
  have HN := Lib.hid (HG.out.trans hn)
  rw [hn]
  clear HG hn
  obtain ⟨sr, hs⟩ : ∃ s0, nS (nS (nS (nS (nS (bl s, 0) 1) 8) 8) 4) 2 = s0 := ⟨_, rfl⟩
  obtain ⟨s1, hs1⟩ : ∃ s0, nN (nS (bl s, 0) 1) 8 = s0 := ⟨_, rfl⟩
  obtain ⟨e1, he1⟩ : ∃ s0, nN (nS (nS (bl s, 0) 1) 8) 8 = s0 := ⟨_, rfl⟩
  obtain ⟨q1, hq1⟩ : ∃ s0, nN (nS (nS (nS (bl s, 0) 1) 8) 8) 4 = s0 := ⟨_, rfl⟩
  obtain ⟨k1, hk1⟩ : ∃ s0, nN (bl s, 0) 1 = s0 := ⟨_, rfl⟩
  have HX : readF (bl s) = readB ⟨(k1 : Nat), s1, e1, q1, 0, 0, 0, 0, 0, ⟨#[]⟩, []⟩ sr := by rw [← hk1, ← hs1, ← he1, ← hq1, ← hs]; rfl
  rw [hs, hs1, he1, hq1, hk1] at HS
  have HX := Lib.hid HX
  rw [hs1, he1, hq1, hk1]
  clear hs hs1 he1 hq1 hk1
  obtain ⟨k, hk⟩ : ∃ k : Int, (k1 : Int) = k := ⟨_, rfl⟩
  rw [hk] at HS HX
  rw [hk]
  clear hk
  have hwn := wrapI_nat (n := n) (by omega)
  have HB := Lib.hid HS.out.b
  have hL2 := HL.out
  by_cases h2 : s.size < 27 + n
  · have HE := Lib.hid (getE_2 (l := bl s) H1.out (by rw [HN.out]; exact h2))
    have h2 := HS.out.h2
    unfold fr0c at h2
    obtain ⟨y0, y1, y2, y3, y4, y5, y6, y7, y8, y9, y10⟩ := cells11 h2
    obtain ⟨z0, z1, z2, z3, z4, z5, z6, z7, z8, z9, z10⟩ := froz11 h2
    have H2 := Lib.hid h2
    clear h2
    go_wp2_with fail
    obtain ⟨u1, u2⟩ := set11 H2.out (mk11 _ _ _ _ _ _ _ _ _ _ _) (.int .i64 0) (.int .u64 0) (.int .u64 0) (.int .u32 0) (.int .u32 0) (.int .i64 0) (.int .i64 0) (.int .i64 0) (.int .i64 0) (.string ⟨#[]⟩) (.slice none 0 0)
    refine bodyPost_ret (results_cell_tmp_row rfl _ _ w.heap.size _ _ _ _ rfl u1 Try.underlying58 rfl (by kernel_rfl)) rfl ?_
    exact get_zero HE.out (by decide) (by rfl) (HB.out.trans (u2.below (fun i hi e => by omega) HB.out.size))
  by_cases h3 : 27 + n < s.size
  · have HE := Lib.hid (getE_3 (l := bl s) H1.out (by rw [HN.out]; exact h3))
    have h2 := HS.out.h2
    unfold fr0c at h2
    obtain ⟨y0, y1, y2, y3, y4, y5, y6, y7, y8, y9, y10⟩ := cells11 h2
    obtain ⟨z0, z1, z2, z3, z4, z5, z6, z7, z8, z9, z10⟩ := froz11 h2
    have H2 := Lib.hid h2
    clear h2
    go_wp2_with fail
    obtain ⟨u1, u2⟩ := set11 H2.out (mk11 _ _ _ _ _ _ _ _ _ _ _) (.int .i64 0) (.int .u64 0) (.int .u64 0) (.int .u32 0) (.int .u32 0) (.int .i64 0) (.int .i64 0) (.int .i64 0) (.int .i64 0) (.string ⟨#[]⟩) (.slice none 0 0)
    refine bodyPost_ret (results_cell_tmp_row rfl _ _ w.heap.size _ _ _ _ rfl u1 Try.underlying58 rfl (by kernel_rfl)) rfl ?_
    exact get_zero HE.out (by decide) (by rfl) (HB.out.trans (u2.below (fun i hi e => by omega) HB.out.size))

  have HLn := Lib.hid (show s.size = 27 + n by omega)
  have h01 : 0 ≤ 23 + (n : Int) := by omega
  have h02 : 23 + (n : Int) ≤ (s.size : Int) := by omega
  have hw23 : IntKind.i64.wrap (23 + (n : Int)) = 23 + (n : Int) := by have h := wrapI_nat (n := 23 + n) (by omega); push_cast at h; exact h
  have e23 : (23 + (n : Int)).toNat = 23 + n := by omega
  obtain ⟨S1, hc1⟩ : ∃ S1, s.extract 0 (23 + n) = S1 := ⟨_, rfl⟩
  obtain ⟨S2, hc2⟩ : ∃ S2, s.extract (23 + n) s.size = S2 := ⟨_, rfl⟩
  have HS1 := Lib.hid (show bl S1 = (bl s).take (23 + n) by rw [← hc1]; exact bl_extract_to s (23 + n))
  have HS2 := Lib.hid (show bl S2 = (bl s).drop (23 + n) by rw [← hc2]; exact bl_extract_from s (23 + n))
  obtain ⟨C, hC⟩ : ∃ C, crcAdd 0 (bl S1) = C := ⟨_, rfl⟩
  have HC := Lib.hid (show crcAdd 0 ((bl s).take (23 + n)) = C by rw [← HS1.out, hC])
  have HC0 := Lib.hid hC
  have hClt : C < 4294967296 := by rw [← hC]; exact crcAdd_lt _ _
  have HClt := Lib.hid hClt
  have hwc := wrap64_nat (n := C) (by omega)
  have HT := Lib.hid (sum_txt (l := bl s) (n := n) (by rw [bl_length]; exact HLn.out) HS2.out hClt)
  have HZ := Lib.hid (show S1.size ≤ 1000000 by rw [← bl_length, HS1.out, List.length_take, bl_length]; omega)
  clear hC hClt
  by_cases h4 : txt 4 C = S2
  rotate_left
  · have hne : ((txt 4 C).toList == S2.toList) = false := by rw [beq_eq_false_iff_ne]; exact fun e => h4 (toList_inj e)
    have HE := Lib.hid (getE_4 (l := bl s) H1.out (by rw [HN.out]; exact HLn.out) (by rw [HN.out, HC.out]; exact fun e => h4 (HT.out.1 e)))
    clear h4
    go_wp2_with fail
    clear h2 h3
    refine wp_region_mix3 (KeepsBut []) (KeepsBut.refl []) (KeepsBut.trans []) [] [(0, 0), (0, 1), (0, 2), (0, 3), (0, 8), (0, 9), (0, 10), (0, 11), (2, 4), (2, 5), (1, 6), (2, 7), (0, 12)] (by kernel_rfl) (by kernel_rfl) (fun d _ _ _ _ h => by cases d <;> exact h) ?_
    have HS := Lib.hid HS.out.drew
    generalize w8.drew = w9 at HS ⊢
    repeat ((first | (refine mix3_free (v := ?_) rfl rfl ?_ (mix3_norm (a' := ?_) ?_ ?_); rotate_left; focus (intro w'; go_simp; first | done | (with_reducible rfl))) | (refine mix3_pure (v := ?_) rfl rfl ?_ (mix3_norm (a' := ?_) ?_ ?_); rotate_left; focus (intro w' hR; go_simp; first | done | (with_reducible rfl))) | refine mix3_freeOff rfl rfl (mix3_norm (a' := ?_) ?_ ?_) | refine mix3_off rfl rfl (mix3_norm (a' := ?_) ?_ ?_)); rotate_left; focus (simp only [Act.put, List.getElem_toArray, List.getElem_cons_zero, List.getElem_cons_succ, List.setIfInBounds_toArray, List.set_cons_zero, List.set_cons_succ]; rfl))
    refine mix3_eff rfl ?_
    simp only [List.getElem_toArray, List.getElem_cons_zero, List.getElem_cons_succ]
    go_wp2_with (refine wpList_bytes_of rfl (.tmp 51) rfl S1 rfl ?_)
    intro A2 c2 w10 hr2 hcc hb
    have HS := Lib.hid (HS.out.below hb)
    have HQ := Lib.hid (refSum_any A2 (bl S1) c2 w10 hr2 (by rw [bl_length]; have := HZ.out; unfold maxLen; omega))
    rw [HC0.out] at HQ
    go_wp2_with fail
    refine mixQ3_normal (KeepsBut.of_below hb) rfl ?_
    clear hr2 hcc hb
    refine mix3_eff rfl ?_
    simp only [List.getElem_toArray, List.getElem_cons_zero, List.getElem_cons_succ]
    go_wp2_with fail
    refine HQ.out.mono ?_
    rintro e w' ⟨rfl, rfl⟩
    go_wp2_with fail
    refine mixQ3_normal (KeepsBut.refl [] _) rfl ?_
    clear HQ
    repeat ((first | (refine mix3_free (v := ?_) rfl rfl ?_ (mix3_norm (a' := ?_) ?_ ?_); rotate_left; focus (intro w'; go_simp; first | done | (with_reducible rfl))) | (refine mix3_pure (v := ?_) rfl rfl ?_ (mix3_norm (a' := ?_) ?_ ?_); rotate_left; focus (intro w' hR; go_simp; first | done | (with_reducible rfl))) | refine mix3_freeOff rfl rfl (mix3_norm (a' := ?_) ?_ ?_) | refine mix3_off rfl rfl (mix3_norm (a' := ?_) ?_ ?_)); rotate_left; focus (simp only [Act.put, List.getElem_toArray, List.getElem_cons_zero, List.getElem_cons_succ, List.setIfInBounds_toArray, List.set_cons_zero, List.set_cons_succ]; rfl))
    refine mix3_eff rfl ?_
    simp only [List.getElem_toArray, List.getElem_cons_zero, List.getElem_cons_succ]
    go_wp2_with fail
    refine (text_any 4 C (by have := HClt.out; omega) _).mono ?_
    rintro e w11 ⟨rfl, hb⟩
    have HS := Lib.hid (HS.out.below hb)
    go_wp2_with fail
    refine mixQ3_normal (KeepsBut.of_below hb) rfl ?_
    clear hb
    repeat ((first | (refine mix3_free (v := ?_) rfl rfl ?_ (mix3_norm (a' := ?_) ?_ ?_); rotate_left; focus (intro w'; go_simp; first | done | (with_reducible rfl))) | (refine mix3_pure (v := ?_) rfl rfl ?_ (mix3_norm (a' := ?_) ?_ ?_); rotate_left; focus (intro w' hR; go_simp; first | done | (with_reducible rfl))) | refine mix3_freeOff rfl rfl (mix3_norm (a' := ?_) ?_ ?_) | refine mix3_off rfl rfl (mix3_norm (a' := ?_) ?_ ?_)); rotate_left; focus (simp only [Act.put, List.getElem_toArray, List.getElem_cons_zero, List.getElem_cons_succ, List.setIfInBounds_toArray, List.set_cons_zero, List.set_cons_succ]; rfl))
    refine mix3_done ?_
    clear hc1 hc2 hwc h01 h02 e23 hw23

    have HB := Lib.hid HS.out.b
    have h2 := HS.out.h2
    unfold fr0c at h2
    obtain ⟨y0, y1, y2, y3, y4, y5, y6, y7, y8, y9, y10⟩ := cells11 h2
    obtain ⟨z0, z1, z2, z3, z4, z5, z6, z7, z8, z9, z10⟩ := froz11 h2
    have H2 := Lib.hid h2
    clear h2
    go_wp2_with fail
    obtain ⟨u1, u2⟩ := set11 H2.out (mk11 _ _ _ _ _ _ _ _ _ _ _) (.int .i64 0) (.int .u64 0) (.int .u64 0) (.int .u32 0) (.int .u32 0) (.int .i64 0) (.int .i64 0) (.int .i64 0) (.int .i64 0) (.string ⟨#[]⟩) (.slice none 0 0)
    refine bodyPost_ret (results_cell_tmp_row rfl _ _ w.heap.size _ _ _ _ rfl u1 Try.underlying58 rfl (by kernel_rfl)) rfl ?_
    exact get_zero HE.out (by decide) (by rfl) (HB.out.trans (u2.below (fun i hi e => by omega) HB.out.size))

  have hne : ((txt 4 C).toList == S2.toList) = true := by rw [h4]; exact beq_self_eq_true _
  have HE0 := Lib.hid (getE_ref (l := bl s) H1.out (by rw [HN.out]; exact HLn.out) (by rw [HN.out, HC.out]; exact HT.out.2 h4))
  clear h4
  go_wp2_with fail
  clear h2 h3
  refine wp_region_mix3 (KeepsBut []) (KeepsBut.refl []) (KeepsBut.trans []) [] [(0, 0), (0, 1), (0, 2), (0, 3), (0, 8), (0, 9), (0, 10), (0, 11), (2, 4), (2, 5), (1, 6), (2, 7), (0, 12)] (by kernel_rfl) (by kernel_rfl) (fun d _ _ _ _ h => by cases d <;> exact h) ?_
  have HS := Lib.hid HS.out.drew
  generalize w8.drew = w9 at HS ⊢
  repeat ((first | (refine mix3_free (v := ?_) rfl rfl ?_ (mix3_norm (a' := ?_) ?_ ?_); rotate_left; focus (intro w'; go_simp; first | done | (with_reducible rfl))) | (refine mix3_pure (v := ?_) rfl rfl ?_ (mix3_norm (a' := ?_) ?_ ?_); rotate_left; focus (intro w' hR; go_simp; first | done | (with_reducible rfl))) | refine mix3_freeOff rfl rfl (mix3_norm (a' := ?_) ?_ ?_) | refine mix3_off rfl rfl (mix3_norm (a' := ?_) ?_ ?_)); rotate_left; focus (simp only [Act.put, List.getElem_toArray, List.getElem_cons_zero, List.getElem_cons_succ, List.setIfInBounds_toArray, List.set_cons_zero, List.set_cons_succ]; rfl))
  refine mix3_eff rfl ?_
  simp only [List.getElem_toArray, List.getElem_cons_zero, List.getElem_cons_succ]
  go_wp2_with (refine wpList_bytes_of rfl (.tmp 51) rfl S1 rfl ?_)
  intro A2 c2 w10 hr2 hcc hb
  have HS := Lib.hid (HS.out.below hb)
  have HQ := Lib.hid (refSum_any A2 (bl S1) c2 w10 hr2 (by rw [bl_length]; have := HZ.out; unfold maxLen; omega))
  rw [HC0.out] at HQ
  go_wp2_with fail
  refine mixQ3_normal (KeepsBut.of_below hb) rfl ?_
  clear hr2 hcc hb
  refine mix3_eff rfl ?_
  simp only [List.getElem_toArray, List.getElem_cons_zero, List.getElem_cons_succ]
  go_wp2_with fail
  refine HQ.out.mono ?_
  rintro e w' ⟨rfl, rfl⟩
  go_wp2_with fail
  refine mixQ3_normal (KeepsBut.refl [] _) rfl ?_
  clear HQ
  repeat ((first | (refine mix3_free (v := ?_) rfl rfl ?_ (mix3_norm (a' := ?_) ?_ ?_); rotate_left; focus (intro w'; go_simp; first | done | (with_reducible rfl))) | (refine mix3_pure (v := ?_) rfl rfl ?_ (mix3_norm (a' := ?_) ?_ ?_); rotate_left; focus (intro w' hR; go_simp; first | done | (with_reducible rfl))) | refine mix3_freeOff rfl rfl (mix3_norm (a' := ?_) ?_ ?_) | refine mix3_off rfl rfl (mix3_norm (a' := ?_) ?_ ?_)); rotate_left; focus (simp only [Act.put, List.getElem_toArray, List.getElem_cons_zero, List.getElem_cons_succ, List.setIfInBounds_toArray, List.set_cons_zero, List.set_cons_succ]; rfl))
  refine mix3_eff rfl ?_
  simp only [List.getElem_toArray, List.getElem_cons_zero, List.getElem_cons_succ]
  go_wp2_with fail
  refine (text_any 4 C (by have := HClt.out; omega) _).mono ?_
  rintro e w11 ⟨rfl, hb⟩
  have HS := Lib.hid (HS.out.below hb)
  go_wp2_with fail
  refine mixQ3_normal (KeepsBut.of_below hb) rfl ?_
  clear hb
  repeat ((first | (refine mix3_free (v := ?_) rfl rfl ?_ (mix3_norm (a' := ?_) ?_ ?_); rotate_left; focus (intro w'; go_simp; first | done | (with_reducible rfl))) | (refine mix3_pure (v := ?_) rfl rfl ?_ (mix3_norm (a' := ?_) ?_ ?_); rotate_left; focus (intro w' hR; go_simp; first | done | (with_reducible rfl))) | refine mix3_freeOff rfl rfl (mix3_norm (a' := ?_) ?_ ?_) | refine mix3_off rfl rfl (mix3_norm (a' := ?_) ?_ ?_)); rotate_left; focus (simp only [Act.put, List.getElem_toArray, List.getElem_cons_zero, List.getElem_cons_succ, List.setIfInBounds_toArray, List.set_cons_zero, List.set_cons_succ]; rfl))
  refine mix3_done ?_
  clear hc1 hc2 hwc h01 h02 e23 hw23

  clear hne
  cases h7 : (k == 7) with
  | true =>
    have HX := Lib.hid (HX.out.trans (readB_7 h7))
    obtain ⟨d0, d1, d2, d3, d4, d5, d6, d7, d8, d9, d10⟩ := cells11 HS.out.hbf
    go_wp2_with fail
    clear d0 d1 d2 d3 d4 d5 d6 d7 d8 d9 d10

    have HO := Lib.hid (show FrOk ⟨k, s1, e1, q1, 0, 0, 0, 0, 0, ⟨#[]⟩, []⟩ ∧ FrSm ⟨k, s1, e1, q1, 0, 0, 0, 0, 0, ⟨#[]⟩, []⟩ from by have h := readF_ok (bl s); rw [HX.out] at h; exact h)
    have HE1 := Lib.hid (show getE (bl s) = if putE ⟨k, s1, e1, q1, 0, 0, 0, 0, 0, ⟨#[]⟩, []⟩ ≠ 0 ∨ bl s ≠ putL ⟨k, s1, e1, q1, 0, 0, 0, 0, 0, ⟨#[]⟩, []⟩ then 6 else 0 from by have h := HE0.out; rw [HX.out] at h; exact h)
    have HP := Lib.hid (refFrPut_any w11 ⟨k, s1, e1, q1, 0, 0, 0, 0, 0, ⟨#[]⟩, []⟩ none 0 (HS.out.row.reads) HO.out.1 HO.out.2.body (Nat.le_trans HO.out.2.2.1 (by decide)))
    unfold Fr.cells at HP
    refine HP.out.mono ?_
    rintro e wp ⟨t, rfl, ht, hb⟩
    have HS := Lib.hid (HS.out.below hb)
    have HTt := Lib.hid ht
    have HB := Lib.hid HS.out.b
    clear hb ht HP
    have h2 := HS.out.h2
    unfold fr0c at h2
    obtain ⟨y0, y1, y2, y3, y4, y5, y6, y7, y8, y9, y10⟩ := cells11 h2
    obtain ⟨z0, z1, z2, z3, z4, z5, z6, z7, z8, z9, z10⟩ := froz11 h2
    have H2 := Lib.hid h2
    clear h2
    cases hpo : putOk ⟨k, s1, e1, q1, 0, 0, 0, 0, 0, ⟨#[]⟩, []⟩ with
    | false =>
      have hpe : putE ⟨k, s1, e1, q1, 0, 0, 0, 0, 0, ⟨#[]⟩, []⟩ = 6 := by unfold putE; rw [hpo]; rfl
      have HE := Lib.hid (show getE (bl s) = 6 by rw [HE1.out, if_pos (.inl (by rw [hpe]; decide))])
      rw [hpe]
      clear hpe hpo
      go_wp2_with fail
      obtain ⟨u1, u2⟩ := set11 H2.out (mk11 _ _ _ _ _ _ _ _ _ _ _) (.int .i64 0) (.int .u64 0) (.int .u64 0) (.int .u32 0) (.int .u32 0) (.int .i64 0) (.int .i64 0) (.int .i64 0) (.int .i64 0) (.string ⟨#[]⟩) (.slice none 0 0)
      refine bodyPost_ret (results_cell_tmp_row rfl _ _ w.heap.size _ _ _ _ rfl u1 Try.underlying58 rfl (by kernel_rfl)) rfl ?_
      exact get_zero HE.out (by decide) (by rfl) (HB.out.trans (u2.below (fun i hi e => by omega) HB.out.size))
    | true =>
      have hpe : putE ⟨k, s1, e1, q1, 0, 0, 0, 0, 0, ⟨#[]⟩, []⟩ = 0 := by unfold putE; rw [hpo]; rfl
      have HE1 := Lib.hid (show getE (bl s) = if bl s ≠ putL ⟨k, s1, e1, q1, 0, 0, 0, 0, 0, ⟨#[]⟩, []⟩ then 6 else 0 by rw [HE1.out, hpe]; simp)
      rw [hpe]
      clear hpe hpo
      by_cases hts : t = s
      · have hq : (t.toList == s.toList) = true := by rw [hts]; exact beq_self_eq_true _
        have HE := Lib.hid (show getE (bl s) = 0 by rw [HE1.out, if_neg (by rw [← HTt.out, hts]; simp)])
        clear hts
        obtain ⟨d0, d1, d2, d3, d4, d5, d6, d7, d8, d9, d10⟩ := cells11 HS.out.hbf
        obtain ⟨t0, t1, t2, t3, t4, t5, t6, t7, t8, t9, t10⟩ := froz11 HS.out.hbf
        go_wp2_with fail
        obtain ⟨u1, u2⟩ := set11 H2.out (mk11 _ _ _ _ _ _ _ _ _ _ _) (.int .i64 k) (.int .u64 (s1 : Nat)) (.int .u64 (e1 : Nat)) (.int .u32 (q1 : Nat)) (.int .u32 0) (.int .i64 0) (.int .i64 0) (.int .i64 0) (.int .i64 0) (.string ⟨#[]⟩) (.slice none 0 0)
        refine bodyPost_ret (results_cell_tmp_row rfl _ _ w.heap.size _ _ _ _ rfl u1 Try.underlying58 rfl (by kernel_rfl)) rfl ?_
        exact fin_ok HE.out HX.out (by rfl) (HS.out.fin u2)
      · have hq : (t.toList == s.toList) = false := by rw [beq_eq_false_iff_ne]; exact fun e => hts (toList_inj e)
        have HE := Lib.hid (show getE (bl s) = 6 by rw [HE1.out, if_pos (fun e => hts (bl_inj (HTt.out.trans e.symm)))])
        clear hts
        go_wp2_with fail
        obtain ⟨u1, u2⟩ := set11 H2.out (mk11 _ _ _ _ _ _ _ _ _ _ _) (.int .i64 0) (.int .u64 0) (.int .u64 0) (.int .u32 0) (.int .u32 0) (.int .i64 0) (.int .i64 0) (.int .i64 0) (.int .i64 0) (.string ⟨#[]⟩) (.slice none 0 0)
        refine bodyPost_ret (results_cell_tmp_row rfl _ _ w.heap.size _ _ _ _ rfl u1 Try.underlying58 rfl (by kernel_rfl)) rfl ?_
        exact get_zero HE.out (by decide) (by rfl) (HB.out.trans (u2.below (fun i hi e => by omega) HB.out.size))
  | false =>
    cases h1 : (k == 1) with
    | true =>
      have HX := Lib.hid (HX.out.trans (readB_1 h7 h1))
      have wv := wrap32_nat (nN_lt sr 4)
      have wn := wrapI_nat (n := nN (nS sr 4) 2) (Nat.lt_trans (nN_lt _ _) (by decide))
      have wf := wrapI_nat (n := nN (nS (nS sr 4) 2) 1) (Nat.lt_trans (nN_lt _ _) (by decide))
      obtain ⟨d0, d1, d2, d3, d4, d5, d6, d7, d8, d9, d10⟩ := cells11 HS.out.hbf
      go_wp2_with fail
      clear d0 d1 d2 d3 d4 d5 d6 d7 d8 d9 d10
      refine (numSB_any HS.out.rd 4).mono ?_
      rintro e w12a ⟨rfl, hp⟩
      have HS := Lib.hid (HS.out.step hp)
      clear hp
      obtain ⟨d0, d1, d2, d3, d4, d5, d6, d7, d8, d9, d10⟩ := cells11 HS.out.hbf
      obtain ⟨t0, t1, t2, t3, t4, t5, t6, t7, t8, t9, t10⟩ := froz11 HS.out.hbf
      go_wp2_with fail
      have HS := Lib.hid (HS.out.set 4 (.int .u32 (nN sr 4 : Nat)))
      simp only [List.setIfInBounds_toArray, List.set_cons_zero, List.set_cons_succ] at HS
      clear d0 d1 d2 d3 d4 d5 d6 d7 d8 d9 d10 t0 t1 t2 t3 t4 t5 t6 t7 t8 t9 t10
      generalize w12a.setCell ⟨bf, 4, none⟩ _ = w12 at HS ⊢
      go_wp2_with fail
      refine (numSB_any HS.out.rd 2).mono ?_
      rintro e w13a ⟨rfl, hp⟩
      have HS := Lib.hid (HS.out.step hp)
      clear hp
      obtain ⟨d0, d1, d2, d3, d4, d5, d6, d7, d8, d9, d10⟩ := cells11 HS.out.hbf
      obtain ⟨t0, t1, t2, t3, t4, t5, t6, t7, t8, t9, t10⟩ := froz11 HS.out.hbf
      go_wp2_with fail
      have HS := Lib.hid (HS.out.set 5 (.int .i64 (nN (nS sr 4) 2 : Nat)))
      simp only [List.setIfInBounds_toArray, List.set_cons_zero, List.set_cons_succ] at HS
      clear d0 d1 d2 d3 d4 d5 d6 d7 d8 d9 d10 t0 t1 t2 t3 t4 t5 t6 t7 t8 t9 t10
      generalize w13a.setCell ⟨bf, 5, none⟩ _ = w13 at HS ⊢
      go_wp2_with fail
      refine (numSB_any HS.out.rd 1).mono ?_
      rintro e w14a ⟨rfl, hp⟩
      have HS := Lib.hid (HS.out.step hp)
      clear hp
      obtain ⟨d0, d1, d2, d3, d4, d5, d6, d7, d8, d9, d10⟩ := cells11 HS.out.hbf
      obtain ⟨t0, t1, t2, t3, t4, t5, t6, t7, t8, t9, t10⟩ := froz11 HS.out.hbf
      go_wp2_with fail
      have HS := Lib.hid (HS.out.set 6 (.int .i64 (nN (nS (nS sr 4) 2) 1 : Nat)))
      simp only [List.setIfInBounds_toArray, List.set_cons_zero, List.set_cons_succ] at HS
      clear d0 d1 d2 d3 d4 d5 d6 d7 d8 d9 d10 t0 t1 t2 t3 t4 t5 t6 t7 t8 t9 t10
      generalize w14a.setCell ⟨bf, 6, none⟩ _ = w14 at HS ⊢
      go_wp2_with fail
      refine (bytesSB_any HS.out.rd 32).mono ?_
      rintro e w15a ⟨Ab, nb, cb, rfl, hcv, hp⟩
      have hcv := hcv w15a (SameTo.refl _ _)
      have HS := Lib.hid (HS.out.step hp)
      clear hp
      obtain ⟨d0, d1, d2, d3, d4, d5, d6, d7, d8, d9, d10⟩ := cells11 HS.out.hbf
      obtain ⟨t0, t1, t2, t3, t4, t5, t6, t7, t8, t9, t10⟩ := froz11 HS.out.hbf
      go_wp2_with fail
      have HS := Lib.hid (HS.out.set 9 (.string (tN (nS (nS (nS sr 4) 2) 1) 32)))
      simp only [List.setIfInBounds_toArray, List.set_cons_zero, List.set_cons_succ] at HS
      clear d0 d1 d2 d3 d4 d5 d6 d7 d8 d9 d10 t0 t1 t2 t3 t4 t5 t6 t7 t8 t9 t10 hcv
      generalize w15a.setCell ⟨bf, 9, none⟩ _ = w15 at HS ⊢
      obtain ⟨d0, d1, d2, d3, d4, d5, d6, d7, d8, d9, d10⟩ := cells11 HS.out.hbf
      go_wp2_with fail
      clear d0 d1 d2 d3 d4 d5 d6 d7 d8 d9 d10 wv wn wf

      have HO := Lib.hid (show FrOk ⟨k, s1, e1, q1, nN sr 4, (nN (nS sr 4) 2 : Nat), (nN (nS (nS sr 4) 2) 1 : Nat), 0, 0, tN (nS (nS (nS sr 4) 2) 1) 32, []⟩ ∧ FrSm ⟨k, s1, e1, q1, nN sr 4, (nN (nS sr 4) 2 : Nat), (nN (nS (nS sr 4) 2) 1 : Nat), 0, 0, tN (nS (nS (nS sr 4) 2) 1) 32, []⟩ from by have h := readF_ok (bl s); rw [HX.out] at h; exact h)
      have HE1 := Lib.hid (show getE (bl s) = if putE ⟨k, s1, e1, q1, nN sr 4, (nN (nS sr 4) 2 : Nat), (nN (nS (nS sr 4) 2) 1 : Nat), 0, 0, tN (nS (nS (nS sr 4) 2) 1) 32, []⟩ ≠ 0 ∨ bl s ≠ putL ⟨k, s1, e1, q1, nN sr 4, (nN (nS sr 4) 2 : Nat), (nN (nS (nS sr 4) 2) 1 : Nat), 0, 0, tN (nS (nS (nS sr 4) 2) 1) 32, []⟩ then 6 else 0 from by have h := HE0.out; rw [HX.out] at h; exact h)
      have HP := Lib.hid (refFrPut_any w15 ⟨k, s1, e1, q1, nN sr 4, (nN (nS sr 4) 2 : Nat), (nN (nS (nS sr 4) 2) 1 : Nat), 0, 0, tN (nS (nS (nS sr 4) 2) 1) 32, []⟩ none 0 (HS.out.row.reads) HO.out.1 HO.out.2.body (Nat.le_trans HO.out.2.2.1 (by decide)))
      unfold Fr.cells at HP
      refine HP.out.mono ?_
      rintro e wp ⟨t, rfl, ht, hb⟩
      have HS := Lib.hid (HS.out.below hb)
      have HTt := Lib.hid ht
      have HB := Lib.hid HS.out.b
      clear hb ht HP
      have h2 := HS.out.h2
      unfold fr0c at h2
      obtain ⟨y0, y1, y2, y3, y4, y5, y6, y7, y8, y9, y10⟩ := cells11 h2
      obtain ⟨z0, z1, z2, z3, z4, z5, z6, z7, z8, z9, z10⟩ := froz11 h2
      have H2 := Lib.hid h2
      clear h2
      cases hpo : putOk ⟨k, s1, e1, q1, nN sr 4, (nN (nS sr 4) 2 : Nat), (nN (nS (nS sr 4) 2) 1 : Nat), 0, 0, tN (nS (nS (nS sr 4) 2) 1) 32, []⟩ with
      | false =>
        have hpe : putE ⟨k, s1, e1, q1, nN sr 4, (nN (nS sr 4) 2 : Nat), (nN (nS (nS sr 4) 2) 1 : Nat), 0, 0, tN (nS (nS (nS sr 4) 2) 1) 32, []⟩ = 6 := by unfold putE; rw [hpo]; rfl
        have HE := Lib.hid (show getE (bl s) = 6 by rw [HE1.out, if_pos (.inl (by rw [hpe]; decide))])
        rw [hpe]
        clear hpe hpo
        go_wp2_with fail
        obtain ⟨u1, u2⟩ := set11 H2.out (mk11 _ _ _ _ _ _ _ _ _ _ _) (.int .i64 0) (.int .u64 0) (.int .u64 0) (.int .u32 0) (.int .u32 0) (.int .i64 0) (.int .i64 0) (.int .i64 0) (.int .i64 0) (.string ⟨#[]⟩) (.slice none 0 0)
        refine bodyPost_ret (results_cell_tmp_row rfl _ _ w.heap.size _ _ _ _ rfl u1 Try.underlying58 rfl (by kernel_rfl)) rfl ?_
        exact get_zero HE.out (by decide) (by rfl) (HB.out.trans (u2.below (fun i hi e => by omega) HB.out.size))
      | true =>
        have hpe : putE ⟨k, s1, e1, q1, nN sr 4, (nN (nS sr 4) 2 : Nat), (nN (nS (nS sr 4) 2) 1 : Nat), 0, 0, tN (nS (nS (nS sr 4) 2) 1) 32, []⟩ = 0 := by unfold putE; rw [hpo]; rfl
        have HE1 := Lib.hid (show getE (bl s) = if bl s ≠ putL ⟨k, s1, e1, q1, nN sr 4, (nN (nS sr 4) 2 : Nat), (nN (nS (nS sr 4) 2) 1 : Nat), 0, 0, tN (nS (nS (nS sr 4) 2) 1) 32, []⟩ then 6 else 0 by rw [HE1.out, hpe]; simp)
        rw [hpe]
        clear hpe hpo
        by_cases hts : t = s
        · have hq : (t.toList == s.toList) = true := by rw [hts]; exact beq_self_eq_true _
          have HE := Lib.hid (show getE (bl s) = 0 by rw [HE1.out, if_neg (by rw [← HTt.out, hts]; simp)])
          clear hts
          obtain ⟨d0, d1, d2, d3, d4, d5, d6, d7, d8, d9, d10⟩ := cells11 HS.out.hbf
          obtain ⟨t0, t1, t2, t3, t4, t5, t6, t7, t8, t9, t10⟩ := froz11 HS.out.hbf
          go_wp2_with fail
          obtain ⟨u1, u2⟩ := set11 H2.out (mk11 _ _ _ _ _ _ _ _ _ _ _) (.int .i64 k) (.int .u64 (s1 : Nat)) (.int .u64 (e1 : Nat)) (.int .u32 (q1 : Nat)) (.int .u32 (nN sr 4 : Nat)) (.int .i64 (nN (nS sr 4) 2 : Nat)) (.int .i64 (nN (nS (nS sr 4) 2) 1 : Nat)) (.int .i64 0) (.int .i64 0) (.string (tN (nS (nS (nS sr 4) 2) 1) 32)) (.slice none 0 0)
          refine bodyPost_ret (results_cell_tmp_row rfl _ _ w.heap.size _ _ _ _ rfl u1 Try.underlying58 rfl (by kernel_rfl)) rfl ?_
          exact fin_ok HE.out HX.out (by rfl) (HS.out.fin u2)
        · have hq : (t.toList == s.toList) = false := by rw [beq_eq_false_iff_ne]; exact fun e => hts (toList_inj e)
          have HE := Lib.hid (show getE (bl s) = 6 by rw [HE1.out, if_pos (fun e => hts (bl_inj (HTt.out.trans e.symm)))])
          clear hts
          go_wp2_with fail
          obtain ⟨u1, u2⟩ := set11 H2.out (mk11 _ _ _ _ _ _ _ _ _ _ _) (.int .i64 0) (.int .u64 0) (.int .u64 0) (.int .u32 0) (.int .u32 0) (.int .i64 0) (.int .i64 0) (.int .i64 0) (.int .i64 0) (.string ⟨#[]⟩) (.slice none 0 0)
          refine bodyPost_ret (results_cell_tmp_row rfl _ _ w.heap.size _ _ _ _ rfl u1 Try.underlying58 rfl (by kernel_rfl)) rfl ?_
          exact get_zero HE.out (by decide) (by rfl) (HB.out.trans (u2.below (fun i hi e => by omega) HB.out.size))
    | false =>
      cases h2 : (k == 2) with
      | true =>
        have HX := Lib.hid (HX.out.trans (readB_2 h7 h1 h2))
        have wn := wrapI_nat (n := nN sr 1) (Nat.lt_trans (nN_lt _ _) (by decide))
        obtain ⟨d0, d1, d2, d3, d4, d5, d6, d7, d8, d9, d10⟩ := cells11 HS.out.hbf
        go_wp2_with fail
        clear d0 d1 d2 d3 d4 d5 d6 d7 d8 d9 d10
        refine (numSB_any HS.out.rd 1).mono ?_
        rintro e w12a ⟨rfl, hp⟩
        have HS := Lib.hid (HS.out.step hp)
        clear hp
        obtain ⟨d0, d1, d2, d3, d4, d5, d6, d7, d8, d9, d10⟩ := cells11 HS.out.hbf
        obtain ⟨t0, t1, t2, t3, t4, t5, t6, t7, t8, t9, t10⟩ := froz11 HS.out.hbf
        go_wp2_with fail
        have HS := Lib.hid (HS.out.set 8 (.int .i64 (nN sr 1 : Nat)))
        simp only [List.setIfInBounds_toArray, List.set_cons_zero, List.set_cons_succ] at HS
        clear d0 d1 d2 d3 d4 d5 d6 d7 d8 d9 d10 t0 t1 t2 t3 t4 t5 t6 t7 t8 t9 t10
        generalize w12a.setCell ⟨bf, 8, none⟩ _ = w12 at HS ⊢
        obtain ⟨d0, d1, d2, d3, d4, d5, d6, d7, d8, d9, d10⟩ := cells11 HS.out.hbf
        go_wp2_with fail
        clear d0 d1 d2 d3 d4 d5 d6 d7 d8 d9 d10 wn

        have HO := Lib.hid (show FrOk ⟨k, s1, e1, q1, 0, 0, 0, 0, (nN sr 1 : Nat), ⟨#[]⟩, []⟩ ∧ FrSm ⟨k, s1, e1, q1, 0, 0, 0, 0, (nN sr 1 : Nat), ⟨#[]⟩, []⟩ from by have h := readF_ok (bl s); rw [HX.out] at h; exact h)
        have HE1 := Lib.hid (show getE (bl s) = if putE ⟨k, s1, e1, q1, 0, 0, 0, 0, (nN sr 1 : Nat), ⟨#[]⟩, []⟩ ≠ 0 ∨ bl s ≠ putL ⟨k, s1, e1, q1, 0, 0, 0, 0, (nN sr 1 : Nat), ⟨#[]⟩, []⟩ then 6 else 0 from by have h := HE0.out; rw [HX.out] at h; exact h)
        have HP := Lib.hid (refFrPut_any w12 ⟨k, s1, e1, q1, 0, 0, 0, 0, (nN sr 1 : Nat), ⟨#[]⟩, []⟩ none 0 (HS.out.row.reads) HO.out.1 HO.out.2.body (Nat.le_trans HO.out.2.2.1 (by decide)))
        unfold Fr.cells at HP
        refine HP.out.mono ?_
        rintro e wp ⟨t, rfl, ht, hb⟩
        have HS := Lib.hid (HS.out.below hb)
        have HTt := Lib.hid ht
        have HB := Lib.hid HS.out.b
        clear hb ht HP
        have h2 := HS.out.h2
        unfold fr0c at h2
        obtain ⟨y0, y1, y2, y3, y4, y5, y6, y7, y8, y9, y10⟩ := cells11 h2
        obtain ⟨z0, z1, z2, z3, z4, z5, z6, z7, z8, z9, z10⟩ := froz11 h2
        have H2 := Lib.hid h2
        clear h2
        cases hpo : putOk ⟨k, s1, e1, q1, 0, 0, 0, 0, (nN sr 1 : Nat), ⟨#[]⟩, []⟩ with
        | false =>
          have hpe : putE ⟨k, s1, e1, q1, 0, 0, 0, 0, (nN sr 1 : Nat), ⟨#[]⟩, []⟩ = 6 := by unfold putE; rw [hpo]; rfl
          have HE := Lib.hid (show getE (bl s) = 6 by rw [HE1.out, if_pos (.inl (by rw [hpe]; decide))])
          rw [hpe]
          clear hpe hpo
          go_wp2_with fail
          obtain ⟨u1, u2⟩ := set11 H2.out (mk11 _ _ _ _ _ _ _ _ _ _ _) (.int .i64 0) (.int .u64 0) (.int .u64 0) (.int .u32 0) (.int .u32 0) (.int .i64 0) (.int .i64 0) (.int .i64 0) (.int .i64 0) (.string ⟨#[]⟩) (.slice none 0 0)
          refine bodyPost_ret (results_cell_tmp_row rfl _ _ w.heap.size _ _ _ _ rfl u1 Try.underlying58 rfl (by kernel_rfl)) rfl ?_
          exact get_zero HE.out (by decide) (by rfl) (HB.out.trans (u2.below (fun i hi e => by omega) HB.out.size))
        | true =>
          have hpe : putE ⟨k, s1, e1, q1, 0, 0, 0, 0, (nN sr 1 : Nat), ⟨#[]⟩, []⟩ = 0 := by unfold putE; rw [hpo]; rfl
          have HE1 := Lib.hid (show getE (bl s) = if bl s ≠ putL ⟨k, s1, e1, q1, 0, 0, 0, 0, (nN sr 1 : Nat), ⟨#[]⟩, []⟩ then 6 else 0 by rw [HE1.out, hpe]; simp)
          rw [hpe]
          clear hpe hpo
          by_cases hts : t = s
          · have hq : (t.toList == s.toList) = true := by rw [hts]; exact beq_self_eq_true _
            have HE := Lib.hid (show getE (bl s) = 0 by rw [HE1.out, if_neg (by rw [← HTt.out, hts]; simp)])
            clear hts
            obtain ⟨d0, d1, d2, d3, d4, d5, d6, d7, d8, d9, d10⟩ := cells11 HS.out.hbf
            obtain ⟨t0, t1, t2, t3, t4, t5, t6, t7, t8, t9, t10⟩ := froz11 HS.out.hbf
            go_wp2_with fail
            obtain ⟨u1, u2⟩ := set11 H2.out (mk11 _ _ _ _ _ _ _ _ _ _ _) (.int .i64 k) (.int .u64 (s1 : Nat)) (.int .u64 (e1 : Nat)) (.int .u32 (q1 : Nat)) (.int .u32 0) (.int .i64 0) (.int .i64 0) (.int .i64 0) (.int .i64 (nN sr 1 : Nat)) (.string ⟨#[]⟩) (.slice none 0 0)
            refine bodyPost_ret (results_cell_tmp_row rfl _ _ w.heap.size _ _ _ _ rfl u1 Try.underlying58 rfl (by kernel_rfl)) rfl ?_
            exact fin_ok HE.out HX.out (by rfl) (HS.out.fin u2)
          · have hq : (t.toList == s.toList) = false := by rw [beq_eq_false_iff_ne]; exact fun e => hts (toList_inj e)
            have HE := Lib.hid (show getE (bl s) = 6 by rw [HE1.out, if_pos (fun e => hts (bl_inj (HTt.out.trans e.symm)))])
            clear hts
            go_wp2_with fail
            obtain ⟨u1, u2⟩ := set11 H2.out (mk11 _ _ _ _ _ _ _ _ _ _ _) (.int .i64 0) (.int .u64 0) (.int .u64 0) (.int .u32 0) (.int .u32 0) (.int .i64 0) (.int .i64 0) (.int .i64 0) (.int .i64 0) (.string ⟨#[]⟩) (.slice none 0 0)
            refine bodyPost_ret (results_cell_tmp_row rfl _ _ w.heap.size _ _ _ _ rfl u1 Try.underlying58 rfl (by kernel_rfl)) rfl ?_
            exact get_zero HE.out (by decide) (by rfl) (HB.out.trans (u2.below (fun i hi e => by omega) HB.out.size))
      | false =>
        cases h4 : (k == 4) with
        | true =>
          have HX := Lib.hid (HX.out.trans (readB_4 h7 h1 h2 h4))
          have wn := wrapI_nat (n := nN sr 2) (Nat.lt_trans (nN_lt _ _) (by decide))
          have wm := wrapI_nat (n := nN (nS sr 2) 1) (Nat.lt_trans (nN_lt _ _) (by decide))
          obtain ⟨d0, d1, d2, d3, d4, d5, d6, d7, d8, d9, d10⟩ := cells11 HS.out.hbf
          go_wp2_with fail
          clear d0 d1 d2 d3 d4 d5 d6 d7 d8 d9 d10
          refine (numSB_any HS.out.rd 2).mono ?_
          rintro e w12a ⟨rfl, hp⟩
          have HS := Lib.hid (HS.out.step hp)
          clear hp
          obtain ⟨d0, d1, d2, d3, d4, d5, d6, d7, d8, d9, d10⟩ := cells11 HS.out.hbf
          obtain ⟨t0, t1, t2, t3, t4, t5, t6, t7, t8, t9, t10⟩ := froz11 HS.out.hbf
          go_wp2_with fail
          have HS := Lib.hid (HS.out.set 7 (.int .i64 (nN sr 2 : Nat)))
          simp only [List.setIfInBounds_toArray, List.set_cons_zero, List.set_cons_succ] at HS
          clear d0 d1 d2 d3 d4 d5 d6 d7 d8 d9 d10 t0 t1 t2 t3 t4 t5 t6 t7 t8 t9 t10
          generalize w12a.setCell ⟨bf, 7, none⟩ _ = w12 at HS ⊢
          go_wp2_with fail
          refine (numSB_any HS.out.rd 1).mono ?_
          rintro e w13 ⟨rfl, hp⟩
          have HS := Lib.hid (HS.out.step hp)
          clear hp
          have hm : nN (nS sr 2) 1 < 256 := nN_lt _ _
          go_wp2_with fail
          clear wn wm
          generalize nN (nS sr 2) 1 = m at HX hm ⊢
          generalize nS (nS sr 2) 1 = sl at HX HS
          go_loopw [8] (fun i wr => ∃ (j : Nat) (A : Option Addr) (c : Nat), j ≤ m ∧ i = .int .i64 j ∧ Hid (QS w w.heap.size g bf #[.int .i64 k, .int .u64 (s1 : Nat), .int .u64 (e1 : Nat), .int .u32 (q1 : Nat), .int .u32 0, .int .i64 0, .int .i64 0, .int .i64 (nN sr 2 : Nat), .int .i64 0, .string ⟨#[]⟩, .slice A (tList sl j).1.length c] A c (tList sl j).1 (tList sl j).2 wr)) (fun i _ => m - (intOf i).toNat)
          case atStart => exact ⟨0, none, 0, Nat.zero_le _, rfl, by rw [tList_zero]; exact HS⟩
          case round =>
            obtain ⟨j, A, c, hj, rfl, HS⟩ := hrel
            by_cases hlt : j < m
            · go_wp2_with fail
              obtain ⟨L, hL⟩ : ∃ L, (tList sl j).1 = L := ⟨_, rfl⟩
              obtain ⟨sj, hsj⟩ : ∃ sj, (tList sl j).2 = sj := ⟨_, rfl⟩
              have HT := Lib.hid (show (tList sl (j + 1)).1 = L ++ [tN sj 32] ∧ (tList sl (j + 1)).2 = tS sj 32 by rw [tList_succ, hL, hsj]; exact ⟨rfl, rfl⟩)
              have HLn := Lib.hid (show L.length = j by rw [← hL, tList_len])
              rw [hL, hsj] at HS
              clear hL hsj
              have HS := Lib.hid HS.out.drew
              have d10 := (keeps11 (M := [g]) HS.out.hbf (by simp; have := HS.out.n5; omega)).2.2.2.2.2.2.2.2.2.2
              refine wp_region_mix3 (KeepsBut [g]) (KeepsBut.refl [g]) (KeepsBut.trans [g]) [6, 8] [(0, 0), (0, 2), (1, 1), (2, 3), (1, 4), (2, 5), (2, 6), (0, 7), (2, 8)] (by kernel_rfl) (by kernel_rfl) (fun d _ _ _ _ h => by cases d <;> exact h) ?_
              generalize wr.drew = wd at HS d10 ⊢
              repeat ((first | (refine mix3_free (v := ?_) rfl rfl ?_ (mix3_norm (a' := ?_) ?_ ?_); rotate_left; focus (intro w'; go_simp; first | done | (with_reducible rfl))) | (refine mix3_pure (v := ?_) rfl rfl ?_ (mix3_norm (a' := ?_) ?_ ?_); rotate_left; focus (intro w' hR; go_simp; first | done | (with_reducible rfl))) | refine mix3_freeOff rfl rfl (mix3_norm (a' := ?_) ?_ ?_) | refine mix3_off rfl rfl (mix3_norm (a' := ?_) ?_ ?_)); rotate_left; focus (simp only [Act.put, List.getElem_toArray, List.getElem_cons_zero, List.getElem_cons_succ, List.setIfInBounds_toArray, List.set_cons_zero, List.set_cons_succ]; rfl))
              clear d10
              refine mix3_eff rfl ?_
              simp only [List.getElem_toArray, List.getElem_cons_zero, List.getElem_cons_succ]
              go_wp2_with fail
              refine (bytesSB_any HS.out.rd 32).mono ?_
              rintro e w8 ⟨Ab, nb, cb, rfl, hcv, hp⟩
              have HS := Lib.hid (HS.out.step hp)
              have hk := hp.2.keeps (M := [g]) (fun i _ h => List.mem_singleton.2 h)
              have hcv := fun W (h : KeepsBut [g] w8 W) => hcv W (keepsTo (by have := HS.out.n5; have := HS.out.lt; omega) h)
              clear hp
              go_wp2_with fail
              refine mixQ3_normal hk rfl ?_
              clear hk
              repeat ((first | (refine mix3_free (v := ?_) rfl rfl ?_ (mix3_norm (a' := ?_) ?_ ?_); rotate_left; focus (intro w'; go_simp; first | done | (with_reducible rfl))) | (refine mix3_pure (v := ?_) rfl rfl ?_ (mix3_norm (a' := ?_) ?_ ?_); rotate_left; focus (intro w' hR; go_simp; first | done | (with_reducible rfl))) | refine mix3_freeOff rfl rfl (mix3_norm (a' := ?_) ?_ ?_) | refine mix3_off rfl rfl (mix3_norm (a' := ?_) ?_ ?_)); rotate_left; focus (simp only [Act.put, List.getElem_toArray, List.getElem_cons_zero, List.getElem_cons_succ, List.setIfInBounds_toArray, List.set_cons_zero, List.set_cons_succ]; rfl))
              clear hcv
              refine mix3_eff rfl ?_
              simp only [List.getElem_toArray, List.getElem_cons_zero, List.getElem_cons_succ]
              go_wp2_with fail
              have hk : KeepsBut [g] w8 (w8.alloc (.cells #[.string (tN sj 32)] 9)) := KeepsBut.of_below (alloc1 _ _ _).1
              have HR := Lib.hid (Reads.box w8 (.string (tN sj 32)) 9)
              have HS := Lib.hid (HS.out.below (alloc1 w8 #[.string (tN sj 32)] 9).1)
              refine mixQ3_normal hk rfl ?_
              clear hk
              obtain ⟨L1, hL1⟩ : ∃ L1, L1 = L ++ [tN sj 32] := ⟨_, rfl⟩
              rw [← hL1] at HT
              have HL1 := Lib.hid hL1
              clear hL1
              refine mix3_eff rfl ?_
              simp only [List.getElem_toArray, List.getElem_cons_zero, List.getElem_cons_succ]
              go_wp2_with (at_builtin; refine append_stn rfl (.tmp 107) (.tmp 111) rfl A c L rfl HS.out.row (some ⟨w8.heap.size, 0, none⟩) 1 [tN sj 32] 1 rfl rfl HR.out (by rw [HLn.out]; omega) L1 HL1.out ?_)
              intro A1 c1 w9 hr1 hc1 hk1
              have HS := Lib.hid (HS.out.rowTo hr1 hc1 (fun k hk => (hk1 k hk).imp id (fun e => by rw [e]; exact (size_alloc _ _).symm)))
              clear hr1 hc1 hk1
              go_wp2_with fail
              refine mixQ3_last (by decide) rfl ?_
              repeat ((first | (refine mix3_free (v := ?_) rfl rfl ?_ (mix3_norm (a' := ?_) ?_ ?_); rotate_left; focus (intro w'; go_simp; first | done | (with_reducible rfl))) | (refine mix3_pure (v := ?_) rfl rfl ?_ (mix3_norm (a' := ?_) ?_ ?_); rotate_left; focus (intro w' hR; go_simp; first | done | (with_reducible rfl))) | refine mix3_freeOff rfl rfl (mix3_norm (a' := ?_) ?_ ?_) | refine mix3_off rfl rfl (mix3_norm (a' := ?_) ?_ ?_)); rotate_left; focus (simp only [Act.put, List.getElem_toArray, List.getElem_cons_zero, List.getElem_cons_succ, List.setIfInBounds_toArray, List.set_cons_zero, List.set_cons_succ]; rfl))
              obtain ⟨d0, d1, d2, d3, d4, d5, d6, d7, d8, d9, d10⟩ := cells11 HS.out.hbf
              obtain ⟨t0, t1, t2, t3, t4, t5, t6, t7, t8, t9, t10⟩ := froz11 HS.out.hbf
              refine mix3_eff rfl ?_
              simp only [List.getElem_toArray, List.getElem_cons_zero, List.getElem_cons_succ]
              go_wp2_with fail
              refine mixQ3_last (by decide) rfl ?_
              clear d0 d1 d2 d3 d4 d5 d6 d7 d8 d9 d10 t0 t1 t2 t3 t4 t5 t6 t7 t8 t9 t10
              refine mix3_done ?_
              have HS := Lib.hid (HS.out.set 10 (.slice A1 L1.length c1))
              simp only [List.setIfInBounds_toArray, List.set_cons_zero, List.set_cons_succ] at HS
              generalize w9.setCell ⟨bf, 10, none⟩ _ = w10 at HS ⊢
              rw [← HT.out.1, ← HT.out.2] at HS
              go_wp2_with fail
              case roundEnd =>
                exact ⟨⟨j + 1, A1, c1, by omega, by push_cast; rfl, HS⟩, by simp only [intOf]; omega⟩
            · obtain rfl : j = m := by omega
              generalize (tList sl j).2 = sf at HX HS
              generalize (tList sl j).1 = L at HX HS
              obtain ⟨d0, d1, d2, d3, d4, d5, d6, d7, d8, d9, d10⟩ := cells11 HS.out.hbf
              go_wp2_with fail
              clear d0 d1 d2 d3 d4 d5 d6 d7 d8 d9 d10
              have HO := Lib.hid (show FrOk ⟨k, s1, e1, q1, 0, 0, 0, (nN sr 2 : Nat), 0, ⟨#[]⟩, L⟩ ∧ FrSm ⟨k, s1, e1, q1, 0, 0, 0, (nN sr 2 : Nat), 0, ⟨#[]⟩, L⟩ from by have h := readF_ok (bl s); rw [HX.out] at h; exact h)
              have HE1 := Lib.hid (show getE (bl s) = if putE ⟨k, s1, e1, q1, 0, 0, 0, (nN sr 2 : Nat), 0, ⟨#[]⟩, L⟩ ≠ 0 ∨ bl s ≠ putL ⟨k, s1, e1, q1, 0, 0, 0, (nN sr 2 : Nat), 0, ⟨#[]⟩, L⟩ then 6 else 0 from by have h := HE0.out; rw [HX.out] at h; exact h)
              have HP := Lib.hid (refFrPut_any wr ⟨k, s1, e1, q1, 0, 0, 0, (nN sr 2 : Nat), 0, ⟨#[]⟩, L⟩ A c (HS.out.row.reads) HO.out.1 HO.out.2.body (Nat.le_trans HO.out.2.2.1 (by decide)))
              unfold Fr.cells at HP
              refine HP.out.mono ?_
              rintro e wp ⟨t, rfl, ht, hb⟩
              have HS := Lib.hid (HS.out.below hb)
              have HTt := Lib.hid ht
              have HB := Lib.hid HS.out.b
              clear hb ht HP
              have h2 := HS.out.h2
              unfold fr0c at h2
              obtain ⟨y0, y1, y2, y3, y4, y5, y6, y7, y8, y9, y10⟩ := cells11 h2
              obtain ⟨z0, z1, z2, z3, z4, z5, z6, z7, z8, z9, z10⟩ := froz11 h2
              have H2 := Lib.hid h2
              clear h2
              cases hpo : putOk ⟨k, s1, e1, q1, 0, 0, 0, (nN sr 2 : Nat), 0, ⟨#[]⟩, L⟩ with
              | false =>
                have hpe : putE ⟨k, s1, e1, q1, 0, 0, 0, (nN sr 2 : Nat), 0, ⟨#[]⟩, L⟩ = 6 := by unfold putE; rw [hpo]; rfl
                have HE := Lib.hid (show getE (bl s) = 6 by rw [HE1.out, if_pos (.inl (by rw [hpe]; decide))])
                rw [hpe]
                clear hpe hpo
                go_wp2_with fail
                obtain ⟨u1, u2⟩ := set11 H2.out (mk11 _ _ _ _ _ _ _ _ _ _ _) (.int .i64 0) (.int .u64 0) (.int .u64 0) (.int .u32 0) (.int .u32 0) (.int .i64 0) (.int .i64 0) (.int .i64 0) (.int .i64 0) (.string ⟨#[]⟩) (.slice none 0 0)
                refine bodyPost_ret (results_cell_tmp_row rfl _ _ w.heap.size _ _ _ _ rfl u1 Try.underlying58 rfl (by kernel_rfl)) rfl ?_
                exact get_zero HE.out (by decide) (by rfl) (HB.out.trans (u2.below (fun i hi e => by omega) HB.out.size))
              | true =>
                have hpe : putE ⟨k, s1, e1, q1, 0, 0, 0, (nN sr 2 : Nat), 0, ⟨#[]⟩, L⟩ = 0 := by unfold putE; rw [hpo]; rfl
                have HE1 := Lib.hid (show getE (bl s) = if bl s ≠ putL ⟨k, s1, e1, q1, 0, 0, 0, (nN sr 2 : Nat), 0, ⟨#[]⟩, L⟩ then 6 else 0 by rw [HE1.out, hpe]; simp)
                rw [hpe]
                clear hpe hpo
                by_cases hts : t = s
                · have hq : (t.toList == s.toList) = true := by rw [hts]; exact beq_self_eq_true _
                  have HE := Lib.hid (show getE (bl s) = 0 by rw [HE1.out, if_neg (by rw [← HTt.out, hts]; simp)])
                  clear hts
                  obtain ⟨d0, d1, d2, d3, d4, d5, d6, d7, d8, d9, d10⟩ := cells11 HS.out.hbf
                  obtain ⟨t0, t1, t2, t3, t4, t5, t6, t7, t8, t9, t10⟩ := froz11 HS.out.hbf
                  go_wp2_with fail
                  obtain ⟨u1, u2⟩ := set11 H2.out (mk11 _ _ _ _ _ _ _ _ _ _ _) (.int .i64 k) (.int .u64 (s1 : Nat)) (.int .u64 (e1 : Nat)) (.int .u32 (q1 : Nat)) (.int .u32 0) (.int .i64 0) (.int .i64 0) (.int .i64 (nN sr 2 : Nat)) (.int .i64 0) (.string ⟨#[]⟩) (.slice A L.length c)
                  refine bodyPost_ret (results_cell_tmp_row rfl _ _ w.heap.size _ _ _ _ rfl u1 Try.underlying58 rfl (by kernel_rfl)) rfl ?_
                  exact fin_ok HE.out HX.out (by rfl) (HS.out.fin u2)
                · have hq : (t.toList == s.toList) = false := by rw [beq_eq_false_iff_ne]; exact fun e => hts (toList_inj e)
                  have HE := Lib.hid (show getE (bl s) = 6 by rw [HE1.out, if_pos (fun e => hts (bl_inj (HTt.out.trans e.symm)))])
                  clear hts
                  go_wp2_with fail
                  obtain ⟨u1, u2⟩ := set11 H2.out (mk11 _ _ _ _ _ _ _ _ _ _ _) (.int .i64 0) (.int .u64 0) (.int .u64 0) (.int .u32 0) (.int .u32 0) (.int .i64 0) (.int .i64 0) (.int .i64 0) (.int .i64 0) (.string ⟨#[]⟩) (.slice none 0 0)
                  refine bodyPost_ret (results_cell_tmp_row rfl _ _ w.heap.size _ _ _ _ rfl u1 Try.underlying58 rfl (by kernel_rfl)) rfl ?_
                  exact get_zero HE.out (by decide) (by rfl) (HB.out.trans (u2.below (fun i hi e => by omega) HB.out.size))
        | false =>
          cases h6 : (k == 6) with
          | true =>
            have HX := Lib.hid (HX.out.trans (readB_6 h7 h1 h2 h4 h6))
            have wn := wrapI_nat (n := nN sr 2) (Nat.lt_trans (nN_lt _ _) (by decide))
            obtain ⟨d0, d1, d2, d3, d4, d5, d6, d7, d8, d9, d10⟩ := cells11 HS.out.hbf
            go_wp2_with fail
            clear d0 d1 d2 d3 d4 d5 d6 d7 d8 d9 d10
            refine (numSB_any HS.out.rd 2).mono ?_
            rintro e w12a ⟨rfl, hp⟩
            have HS := Lib.hid (HS.out.step hp)
            clear hp
            obtain ⟨d0, d1, d2, d3, d4, d5, d6, d7, d8, d9, d10⟩ := cells11 HS.out.hbf
            obtain ⟨t0, t1, t2, t3, t4, t5, t6, t7, t8, t9, t10⟩ := froz11 HS.out.hbf
            go_wp2_with fail
            have HS := Lib.hid (HS.out.set 7 (.int .i64 (nN sr 2 : Nat)))
            simp only [List.setIfInBounds_toArray, List.set_cons_zero, List.set_cons_succ] at HS
            clear d0 d1 d2 d3 d4 d5 d6 d7 d8 d9 d10 t0 t1 t2 t3 t4 t5 t6 t7 t8 t9 t10
            generalize w12a.setCell ⟨bf, 7, none⟩ _ = w12 at HS ⊢
            go_wp2_with fail
            refine (bytesSB_any HS.out.rd 64).mono ?_
            rintro e w13a ⟨Ab, nb, cb, rfl, hcv, hp⟩
            have hcv := hcv w13a (SameTo.refl _ _)
            have HS := Lib.hid (HS.out.step hp)
            clear hp
            obtain ⟨d0, d1, d2, d3, d4, d5, d6, d7, d8, d9, d10⟩ := cells11 HS.out.hbf
            obtain ⟨t0, t1, t2, t3, t4, t5, t6, t7, t8, t9, t10⟩ := froz11 HS.out.hbf
            go_wp2_with fail
            have HS := Lib.hid (HS.out.set 9 (.string (tN (nS sr 2) 64)))
            simp only [List.setIfInBounds_toArray, List.set_cons_zero, List.set_cons_succ] at HS
            clear d0 d1 d2 d3 d4 d5 d6 d7 d8 d9 d10 t0 t1 t2 t3 t4 t5 t6 t7 t8 t9 t10 hcv
            generalize w13a.setCell ⟨bf, 9, none⟩ _ = w13 at HS ⊢
            obtain ⟨d0, d1, d2, d3, d4, d5, d6, d7, d8, d9, d10⟩ := cells11 HS.out.hbf
            go_wp2_with fail
            clear d0 d1 d2 d3 d4 d5 d6 d7 d8 d9 d10 wn

            have HO := Lib.hid (show FrOk ⟨k, s1, e1, q1, 0, 0, 0, (nN sr 2 : Nat), 0, tN (nS sr 2) 64, []⟩ ∧ FrSm ⟨k, s1, e1, q1, 0, 0, 0, (nN sr 2 : Nat), 0, tN (nS sr 2) 64, []⟩ from by have h := readF_ok (bl s); rw [HX.out] at h; exact h)
            have HE1 := Lib.hid (show getE (bl s) = if putE ⟨k, s1, e1, q1, 0, 0, 0, (nN sr 2 : Nat), 0, tN (nS sr 2) 64, []⟩ ≠ 0 ∨ bl s ≠ putL ⟨k, s1, e1, q1, 0, 0, 0, (nN sr 2 : Nat), 0, tN (nS sr 2) 64, []⟩ then 6 else 0 from by have h := HE0.out; rw [HX.out] at h; exact h)
            have HP := Lib.hid (refFrPut_any w13 ⟨k, s1, e1, q1, 0, 0, 0, (nN sr 2 : Nat), 0, tN (nS sr 2) 64, []⟩ none 0 (HS.out.row.reads) HO.out.1 HO.out.2.body (Nat.le_trans HO.out.2.2.1 (by decide)))
            unfold Fr.cells at HP
            refine HP.out.mono ?_
            rintro e wp ⟨t, rfl, ht, hb⟩
            have HS := Lib.hid (HS.out.below hb)
            have HTt := Lib.hid ht
            have HB := Lib.hid HS.out.b
            clear hb ht HP
            have h2 := HS.out.h2
            unfold fr0c at h2
            obtain ⟨y0, y1, y2, y3, y4, y5, y6, y7, y8, y9, y10⟩ := cells11 h2
            obtain ⟨z0, z1, z2, z3, z4, z5, z6, z7, z8, z9, z10⟩ := froz11 h2
            have H2 := Lib.hid h2
            clear h2
            cases hpo : putOk ⟨k, s1, e1, q1, 0, 0, 0, (nN sr 2 : Nat), 0, tN (nS sr 2) 64, []⟩ with
            | false =>
              have hpe : putE ⟨k, s1, e1, q1, 0, 0, 0, (nN sr 2 : Nat), 0, tN (nS sr 2) 64, []⟩ = 6 := by unfold putE; rw [hpo]; rfl
              have HE := Lib.hid (show getE (bl s) = 6 by rw [HE1.out, if_pos (.inl (by rw [hpe]; decide))])
              rw [hpe]
              clear hpe hpo
              go_wp2_with fail
              obtain ⟨u1, u2⟩ := set11 H2.out (mk11 _ _ _ _ _ _ _ _ _ _ _) (.int .i64 0) (.int .u64 0) (.int .u64 0) (.int .u32 0) (.int .u32 0) (.int .i64 0) (.int .i64 0) (.int .i64 0) (.int .i64 0) (.string ⟨#[]⟩) (.slice none 0 0)
              refine bodyPost_ret (results_cell_tmp_row rfl _ _ w.heap.size _ _ _ _ rfl u1 Try.underlying58 rfl (by kernel_rfl)) rfl ?_
              exact get_zero HE.out (by decide) (by rfl) (HB.out.trans (u2.below (fun i hi e => by omega) HB.out.size))
            | true =>
              have hpe : putE ⟨k, s1, e1, q1, 0, 0, 0, (nN sr 2 : Nat), 0, tN (nS sr 2) 64, []⟩ = 0 := by unfold putE; rw [hpo]; rfl
              have HE1 := Lib.hid (show getE (bl s) = if bl s ≠ putL ⟨k, s1, e1, q1, 0, 0, 0, (nN sr 2 : Nat), 0, tN (nS sr 2) 64, []⟩ then 6 else 0 by rw [HE1.out, hpe]; simp)
              rw [hpe]
              clear hpe hpo
              by_cases hts : t = s
              · have hq : (t.toList == s.toList) = true := by rw [hts]; exact beq_self_eq_true _
                have HE := Lib.hid (show getE (bl s) = 0 by rw [HE1.out, if_neg (by rw [← HTt.out, hts]; simp)])
                clear hts
                obtain ⟨d0, d1, d2, d3, d4, d5, d6, d7, d8, d9, d10⟩ := cells11 HS.out.hbf
                obtain ⟨t0, t1, t2, t3, t4, t5, t6, t7, t8, t9, t10⟩ := froz11 HS.out.hbf
                go_wp2_with fail
                obtain ⟨u1, u2⟩ := set11 H2.out (mk11 _ _ _ _ _ _ _ _ _ _ _) (.int .i64 k) (.int .u64 (s1 : Nat)) (.int .u64 (e1 : Nat)) (.int .u32 (q1 : Nat)) (.int .u32 0) (.int .i64 0) (.int .i64 0) (.int .i64 (nN sr 2 : Nat)) (.int .i64 0) (.string (tN (nS sr 2) 64)) (.slice none 0 0)
                refine bodyPost_ret (results_cell_tmp_row rfl _ _ w.heap.size _ _ _ _ rfl u1 Try.underlying58 rfl (by kernel_rfl)) rfl ?_
                exact fin_ok HE.out HX.out (by rfl) (HS.out.fin u2)
              · have hq : (t.toList == s.toList) = false := by rw [beq_eq_false_iff_ne]; exact fun e => hts (toList_inj e)
                have HE := Lib.hid (show getE (bl s) = 6 by rw [HE1.out, if_pos (fun e => hts (bl_inj (HTt.out.trans e.symm)))])
                clear hts
                go_wp2_with fail
                obtain ⟨u1, u2⟩ := set11 H2.out (mk11 _ _ _ _ _ _ _ _ _ _ _) (.int .i64 0) (.int .u64 0) (.int .u64 0) (.int .u32 0) (.int .u32 0) (.int .i64 0) (.int .i64 0) (.int .i64 0) (.int .i64 0) (.string ⟨#[]⟩) (.slice none 0 0)
                refine bodyPost_ret (results_cell_tmp_row rfl _ _ w.heap.size _ _ _ _ rfl u1 Try.underlying58 rfl (by kernel_rfl)) rfl ?_
                exact get_zero HE.out (by decide) (by rfl) (HB.out.trans (u2.below (fun i hi e => by omega) HB.out.size))
          | false =>
            have HX := Lib.hid (HX.out.trans (readB_x h7 h1 h2 h4 h6))
            have wn := wrapI_nat (n := nN sr 2) (Nat.lt_trans (nN_lt _ _) (by decide))
            obtain ⟨d0, d1, d2, d3, d4, d5, d6, d7, d8, d9, d10⟩ := cells11 HS.out.hbf
            go_wp2_with fail
            clear d0 d1 d2 d3 d4 d5 d6 d7 d8 d9 d10
            refine (numSB_any HS.out.rd 2).mono ?_
            rintro e w12a ⟨rfl, hp⟩
            have HS := Lib.hid (HS.out.step hp)
            clear hp
            obtain ⟨d0, d1, d2, d3, d4, d5, d6, d7, d8, d9, d10⟩ := cells11 HS.out.hbf
            obtain ⟨t0, t1, t2, t3, t4, t5, t6, t7, t8, t9, t10⟩ := froz11 HS.out.hbf
            go_wp2_with fail
            have HS := Lib.hid (HS.out.set 7 (.int .i64 (nN sr 2 : Nat)))
            simp only [List.setIfInBounds_toArray, List.set_cons_zero, List.set_cons_succ] at HS
            clear d0 d1 d2 d3 d4 d5 d6 d7 d8 d9 d10 t0 t1 t2 t3 t4 t5 t6 t7 t8 t9 t10
            generalize w12a.setCell ⟨bf, 7, none⟩ _ = w12 at HS ⊢
            obtain ⟨d0, d1, d2, d3, d4, d5, d6, d7, d8, d9, d10⟩ := cells11 HS.out.hbf
            go_wp2_with fail
            clear d0 d1 d2 d3 d4 d5 d6 d7 d8 d9 d10 wn

            have HO := Lib.hid (show FrOk ⟨k, s1, e1, q1, 0, 0, 0, (nN sr 2 : Nat), 0, ⟨#[]⟩, []⟩ ∧ FrSm ⟨k, s1, e1, q1, 0, 0, 0, (nN sr 2 : Nat), 0, ⟨#[]⟩, []⟩ from by have h := readF_ok (bl s); rw [HX.out] at h; exact h)
            have HE1 := Lib.hid (show getE (bl s) = if putE ⟨k, s1, e1, q1, 0, 0, 0, (nN sr 2 : Nat), 0, ⟨#[]⟩, []⟩ ≠ 0 ∨ bl s ≠ putL ⟨k, s1, e1, q1, 0, 0, 0, (nN sr 2 : Nat), 0, ⟨#[]⟩, []⟩ then 6 else 0 from by have h := HE0.out; rw [HX.out] at h; exact h)
            have HP := Lib.hid (refFrPut_any w12 ⟨k, s1, e1, q1, 0, 0, 0, (nN sr 2 : Nat), 0, ⟨#[]⟩, []⟩ none 0 (HS.out.row.reads) HO.out.1 HO.out.2.body (Nat.le_trans HO.out.2.2.1 (by decide)))
            unfold Fr.cells at HP
            refine HP.out.mono ?_
            rintro e wp ⟨t, rfl, ht, hb⟩
            have HS := Lib.hid (HS.out.below hb)
            have HTt := Lib.hid ht
            have HB := Lib.hid HS.out.b
            clear hb ht HP
            have h2 := HS.out.h2
            unfold fr0c at h2
            obtain ⟨y0, y1, y2, y3, y4, y5, y6, y7, y8, y9, y10⟩ := cells11 h2
            obtain ⟨z0, z1, z2, z3, z4, z5, z6, z7, z8, z9, z10⟩ := froz11 h2
            have H2 := Lib.hid h2
            clear h2
            cases hpo : putOk ⟨k, s1, e1, q1, 0, 0, 0, (nN sr 2 : Nat), 0, ⟨#[]⟩, []⟩ with
            | false =>
              have hpe : putE ⟨k, s1, e1, q1, 0, 0, 0, (nN sr 2 : Nat), 0, ⟨#[]⟩, []⟩ = 6 := by unfold putE; rw [hpo]; rfl
              have HE := Lib.hid (show getE (bl s) = 6 by rw [HE1.out, if_pos (.inl (by rw [hpe]; decide))])
              rw [hpe]
              clear hpe hpo
              go_wp2_with fail
              obtain ⟨u1, u2⟩ := set11 H2.out (mk11 _ _ _ _ _ _ _ _ _ _ _) (.int .i64 0) (.int .u64 0) (.int .u64 0) (.int .u32 0) (.int .u32 0) (.int .i64 0) (.int .i64 0) (.int .i64 0) (.int .i64 0) (.string ⟨#[]⟩) (.slice none 0 0)
              refine bodyPost_ret (results_cell_tmp_row rfl _ _ w.heap.size _ _ _ _ rfl u1 Try.underlying58 rfl (by kernel_rfl)) rfl ?_
              exact get_zero HE.out (by decide) (by rfl) (HB.out.trans (u2.below (fun i hi e => by omega) HB.out.size))
            | true =>
              have hpe : putE ⟨k, s1, e1, q1, 0, 0, 0, (nN sr 2 : Nat), 0, ⟨#[]⟩, []⟩ = 0 := by unfold putE; rw [hpo]; rfl
              have HE1 := Lib.hid (show getE (bl s) = if bl s ≠ putL ⟨k, s1, e1, q1, 0, 0, 0, (nN sr 2 : Nat), 0, ⟨#[]⟩, []⟩ then 6 else 0 by rw [HE1.out, hpe]; simp)
              rw [hpe]
              clear hpe hpo
              by_cases hts : t = s
              · have hq : (t.toList == s.toList) = true := by rw [hts]; exact beq_self_eq_true _
                have HE := Lib.hid (show getE (bl s) = 0 by rw [HE1.out, if_neg (by rw [← HTt.out, hts]; simp)])
                clear hts
                obtain ⟨d0, d1, d2, d3, d4, d5, d6, d7, d8, d9, d10⟩ := cells11 HS.out.hbf
                obtain ⟨t0, t1, t2, t3, t4, t5, t6, t7, t8, t9, t10⟩ := froz11 HS.out.hbf
                go_wp2_with fail
                obtain ⟨u1, u2⟩ := set11 H2.out (mk11 _ _ _ _ _ _ _ _ _ _ _) (.int .i64 k) (.int .u64 (s1 : Nat)) (.int .u64 (e1 : Nat)) (.int .u32 (q1 : Nat)) (.int .u32 0) (.int .i64 0) (.int .i64 0) (.int .i64 (nN sr 2 : Nat)) (.int .i64 0) (.string ⟨#[]⟩) (.slice none 0 0)
                refine bodyPost_ret (results_cell_tmp_row rfl _ _ w.heap.size _ _ _ _ rfl u1 Try.underlying58 rfl (by kernel_rfl)) rfl ?_
                exact fin_ok HE.out HX.out (by rfl) (HS.out.fin u2)
              · have hq : (t.toList == s.toList) = false := by rw [beq_eq_false_iff_ne]; exact fun e => hts (toList_inj e)
                have HE := Lib.hid (show getE (bl s) = 6 by rw [HE1.out, if_pos (fun e => hts (bl_inj (HTt.out.trans e.symm)))])
                clear hts
                go_wp2_with fail
                obtain ⟨u1, u2⟩ := set11 H2.out (mk11 _ _ _ _ _ _ _ _ _ _ _) (.int .i64 0) (.int .u64 0) (.int .u64 0) (.int .u32 0) (.int .u32 0) (.int .i64 0) (.int .i64 0) (.int .i64 0) (.int .i64 0) (.string ⟨#[]⟩) (.slice none 0 0)
                refine bodyPost_ret (results_cell_tmp_row rfl _ _ w.heap.size _ _ _ _ rfl u1 Try.underlying58 rfl (by kernel_rfl)) rfl ?_
                exact get_zero HE.out (by decide) (by rfl) (HB.out.trans (u2.below (fun i hi e => by omega) HB.out.size))
end Go.Proofs.Ytebcginnnjigjaa

end
section
/- Laws of frames: what all of them use. -/
open Go.RowKit
namespace Go.Proofs.Ytebcginnnjigjaa

def fk : Fr := ⟨7, 3, 2, 1, 0, 0, 0, 0, 0, ⟨#[]⟩, []⟩
def fk2 : Fr := ⟨7, 0, 0, 0, 0, 0, 0, 1, 0, ⟨#[]⟩, []⟩
theorem fk_ok : FrOk fk ∧ putOk fk = true ∧ (bodyL fk).length = 0 := by
  refine ⟨⟨by decide, by decide, by decide, by decide⟩, ?_, rfl⟩
  unfold putOk
  rw [show bodyW fk = false from rfl, show told fk = fk from rfl, (alikeB_iff fk fk).2 rfl]
  rfl
theorem fk_len : (putL fk).length = 27 := by rw [putL_length fk_ok.2.1, fk_ok.2.2]
theorem fk2_ok : putOk fk2 = false := by
  unfold putOk
  have h : alikeB fk2 (told fk2) = false := by
    rw [Bool.eq_false_iff]
    intro h
    have h2 := congrArg Fr.i ((alikeB_iff _ _).1 h)
    exact absurd h2 (by decide)
  rw [h, Bool.and_false]
theorem getX_sm (l : List UInt8) : FrOk (getX l) ∧ FrSm (getX l) := by
  by_cases h : getE l = 0
  · rw [getX_ok h]; exact readF_ok l
  · rw [getX_bad h]
    exact ⟨⟨by decide, by decide, by decide, by decide⟩, by decide, by decide, fun t ht => by cases ht⟩
/-- Few parts, with short texts. -/
def shortB (x : Fr) : Bool := decide (x.l.length ≤ 20) && decide (x.d.size ≤ 200) && x.l.all (fun s => decide (s.size ≤ 200))
theorem shortB_lens {x : Fr} (h : shortB x = true) : x.l.length ≤ 20 ∧ x.d.size ≤ 200 ∧ (bodyL x).length ≤ 100000000 := by
  unfold shortB at h
  simp only [Bool.and_eq_true, decide_eq_true_eq, List.all_eq_true] at h
  obtain ⟨⟨h1, h2⟩, h3⟩ := h
  have h4 := bodyL_len x
  have h5 : ∀ (l : List ByteArray), (∀ s ∈ l, s.size ≤ 200) → (l.flatMap bl).length ≤ 200 * l.length := by
    intro l
    induction l with
    | nil => simp
    | cons a l ih =>
      intro h
      have := ih (fun s hs => h s (List.mem_cons_of_mem _ hs))
      have := h a (List.mem_cons_self ..)
      rw [List.flatMap_cons, List.length_append, List.length_cons, bl_length]
      omega
  have := h5 x.l h3
  exact ⟨h1, h2, by omega⟩
end Go.Proofs.Ytebcginnnjigjaa

end
