import Derived.Test.YtebcginnnjigjaaM24
import Derived.Test.YtebcginnnjigjaaM18
import Derived.Test.YtebcginnnjigjaaM4
import Derived.Test.YtebcginnnjigjaaM23
import Derived.Test.YtebcginnnjigjaaM14
section
/- The reference's frames as bytes. -/
open Go.RowKit
namespace Go.Proofs.Ytebcginnnjigjaa

theorem bodyW_kinds {x : Fr} (h : bodyW x = false) : x.k = 1 ∨ x.k = 2 ∨ x.k = 3 ∨ x.k = 4 ∨ x.k = 5 ∨ x.k = 6 ∨ x.k = 7 := by
  unfold bodyW at h
  by_cases h1 : x.k = 1
  · omega
  by_cases h2 : x.k = 2
  · omega
  by_cases h35 : x.k = 3 ∨ x.k = 5
  · omega
  by_cases h4 : x.k = 4
  · omega
  by_cases h6 : x.k = 6
  · omega
  rw [if_neg h1, if_neg h2, if_neg h35, if_neg h4, if_neg h6] at h
  have := of_decide_eq_false h
  omega
set_option maxHeartbeats 4000000 in
set_option maxRecDepth 100000 in
theorem refFrPutA (w : World) (x : Fr) (A : Option Addr) (c : Nat) (hr : Reads w 1 A x.l.length (sts x.l)) (hok : FrOk x) (hB : (bodyL x).length ≤ 100000000) (hl : x.l.length ≤ 2000000) (bw : bodyW x = true) :
    Calls Try.prog 46 #[.agg (x.cells A c)] w fun e w' => ∃ s, e = .returned (.tuple #[.string s, .int .i64 (putE x : Nat)]) ∧ bl s = putL x ∧ Below w.heap.size w w' := by
  obtain ⟨hb, hg, _⟩ := alloc1 w (x.cells A c) 58
  have HBo := Lib.hid (refBody_any (w.alloc (.cells (x.cells A c) 58)) x A c (hr.below hb) hok hB hl)
  have Hr := Lib.hid hr
  have HLl := Lib.hid hl
  have HBd := Lib.hid hB
  have Hok := Lib.hid hok
  rw [bw] at HBo
  unfold Fr.cells at hg hb HBo ⊢
  obtain ⟨d0, d1, d2, d3, d4, d5, d6, d7, d8, d9, d10⟩ := cells11 hg
  have HG := Lib.hid hg
  have HB := Lib.hid hb
  clear hr hok hl hB hg hb
  go_enter Try.func46, Try.ntmps46
  go_wp2_with fail
  clear d0 d1 d2 d3 d4 d5 d6 d7 d8 d9 d10
  refine HBo.out.mono ?_
  rintro e w1 ⟨s, rfl, hs, hb⟩
  have HG := Lib.hid ((hb.block _ (Array.getElem?_eq_some_iff.1 HG.out).1).trans HG.out)
  have HB := Lib.hid (HB.out.trans (hb.mono HB.out.size))
  clear hb HBo
  have HE := Lib.hid (show putL x = [] ∧ putE x = 6 from ⟨by unfold putL putOk; rw [bw]; rfl, by unfold putE putOk; rw [bw]; rfl⟩)
  clear hs
  go_wp2_with fail
  have HG := Lib.hid (show (w1.drew).heap[w.heap.size]? = _ from HG.out)
  have HB := Lib.hid HB.out.drew
  obtain ⟨d0, d1, d2, d3, d4, d5, d6, d7, d8, d9, d10⟩ := keeps11 (M := []) (w := w1.drew) HG.out (by simp)
  refine wp_region_mix3 (KeepsBut []) (KeepsBut.refl []) (KeepsBut.trans []) [] [(0, 0), (0, 1), (0, 2), (1, 3), (1, 4), (2, 5), (2, 6), (0, 7), (0, 8)] (by kernel_rfl) (by kernel_rfl) (fun d _ _ _ _ h => by cases d <;> exact h) ?_
  generalize w1.drew = wd at HG HB d0 d1 d2 d3 d4 d5 d6 d7 d8 d9 d10 ⊢
  repeat (first
    | (refine mix3_free (v := ?_) rfl rfl ?_ (mix3_norm (a' := ?_) ?_ ?_)
       rotate_left
       focus (intro w'; go_simp; first | done | (with_reducible rfl))
       rotate_left
       focus (simp only [Act.put, List.getElem_toArray, List.getElem_cons_zero, List.getElem_cons_succ, List.setIfInBounds_toArray, List.set_cons_zero, List.set_cons_succ]; rfl))
    | (refine mix3_pure (v := ?_) rfl rfl ?_ (mix3_norm (a' := ?_) ?_ ?_)
       rotate_left
       focus (intro w' hR; go_simp; first | done | (with_reducible rfl))
       rotate_left
       focus (simp only [Act.put, List.getElem_toArray, List.getElem_cons_zero, List.getElem_cons_succ, List.setIfInBounds_toArray, List.set_cons_zero, List.set_cons_succ]; rfl))
    | (refine mix3_freeOff rfl rfl (mix3_norm (a' := ?_) ?_ ?_)
       rotate_left
       focus (simp only [Act.put, List.getElem_toArray, List.getElem_cons_zero, List.getElem_cons_succ, List.setIfInBounds_toArray, List.set_cons_zero, List.set_cons_succ]; rfl))
    | (refine mix3_off rfl rfl (mix3_norm (a' := ?_) ?_ ?_)
       rotate_left
       focus (simp only [Act.put, List.getElem_toArray, List.getElem_cons_zero, List.getElem_cons_succ, List.setIfInBounds_toArray, List.set_cons_zero, List.set_cons_succ]; rfl)))
  clear d0 d1 d2 d3 d4 d5 d6 d7 d8 d9 d10
  refine mix3_skip (KeepsBut.refl []) rfl rfl (mix3_norm (a' := ?_) ?_ ?_)
  rotate_left
  focus (simp only [Act.put, List.getElem_toArray, List.getElem_cons_zero, List.getElem_cons_succ, List.setIfInBounds_toArray, List.set_cons_zero, List.set_cons_succ]; rfl)
  refine mix3_skip (KeepsBut.refl []) rfl rfl (mix3_norm (a' := ?_) ?_ ?_)
  rotate_left
  focus (simp only [Act.put, List.getElem_toArray, List.getElem_cons_zero, List.getElem_cons_succ, List.setIfInBounds_toArray, List.set_cons_zero, List.set_cons_succ]; rfl)
  repeat (first
    | (refine mix3_free (v := ?_) rfl rfl ?_ (mix3_norm (a' := ?_) ?_ ?_)
       rotate_left
       focus (intro w'; go_simp; first | done | (with_reducible rfl))
       rotate_left
       focus (simp only [Act.put, List.getElem_toArray, List.getElem_cons_zero, List.getElem_cons_succ, List.setIfInBounds_toArray, List.set_cons_zero, List.set_cons_succ]; rfl))
    | (refine mix3_pure (v := ?_) rfl rfl ?_ (mix3_norm (a' := ?_) ?_ ?_)
       rotate_left
       focus (intro w' hR; go_simp; first | done | (with_reducible rfl))
       rotate_left
       focus (simp only [Act.put, List.getElem_toArray, List.getElem_cons_zero, List.getElem_cons_succ, List.setIfInBounds_toArray, List.set_cons_zero, List.set_cons_succ]; rfl))
    | (refine mix3_freeOff rfl rfl (mix3_norm (a' := ?_) ?_ ?_)
       rotate_left
       focus (simp only [Act.put, List.getElem_toArray, List.getElem_cons_zero, List.getElem_cons_succ, List.setIfInBounds_toArray, List.set_cons_zero, List.set_cons_succ]; rfl))
    | (refine mix3_off rfl rfl (mix3_norm (a' := ?_) ?_ ?_)
       rotate_left
       focus (simp only [Act.put, List.getElem_toArray, List.getElem_cons_zero, List.getElem_cons_succ, List.setIfInBounds_toArray, List.set_cons_zero, List.set_cons_succ]; rfl)))
  refine mix3_done ?_
  go_wp2_with fail
  go_ret2
  exact ⟨⟨#[]⟩, by rw [HE.out.2]; rfl, by rw [HE.out.1]; rfl, HB.out⟩
set_option maxHeartbeats 4000000 in
set_option maxRecDepth 100000 in
theorem refFrPutB (w : World) (x : Fr) (A : Option Addr) (c : Nat) (hr : Reads w 1 A x.l.length (sts x.l)) (hok : FrOk x) (hB : (bodyL x).length ≤ 100000000) (hl : x.l.length ≤ 2000000) (bw : bodyW x = false) (al : alikeB x (told x) = false) :
    Calls Try.prog 46 #[.agg (x.cells A c)] w fun e w' => ∃ s, e = .returned (.tuple #[.string s, .int .i64 (putE x : Nat)]) ∧ bl s = putL x ∧ Below w.heap.size w w' := by
  obtain ⟨hb, hg, _⟩ := alloc1 w (x.cells A c) 58
  have HBo := Lib.hid (refBody_any (w.alloc (.cells (x.cells A c) 58)) x A c (hr.below hb) hok hB hl)
  have Hr := Lib.hid hr
  have HLl := Lib.hid hl
  have HBd := Lib.hid hB
  have Hok := Lib.hid hok
  rw [bw] at HBo
  unfold Fr.cells at hg hb HBo ⊢
  obtain ⟨d0, d1, d2, d3, d4, d5, d6, d7, d8, d9, d10⟩ := cells11 hg
  have HG := Lib.hid hg
  have HB := Lib.hid hb
  clear hr hok hl hB hg hb
  go_enter Try.func46, Try.ntmps46
  go_wp2_with fail
  clear d0 d1 d2 d3 d4 d5 d6 d7 d8 d9 d10
  refine HBo.out.mono ?_
  rintro e w1 ⟨s, rfl, hs, hb⟩
  have HG := Lib.hid ((hb.block _ (Array.getElem?_eq_some_iff.1 HG.out).1).trans HG.out)
  have HB := Lib.hid (HB.out.trans (hb.mono HB.out.size))
  clear hb HBo
  have HE := Lib.hid (show putL x = [] ∧ putE x = 6 from ⟨by unfold putL putOk; rw [bw, al]; rfl, by unfold putE putOk; rw [bw, al]; rfl⟩)
  clear hs
  have hk7 := bodyW_kinds bw
  have HTo := Lib.hid (fun wx => refTold_any wx x A c hk7)
  unfold Fr.cells at HTo
  clear hk7
  go_wp2_with fail
  have HG := Lib.hid (show (w1.drew).heap[w.heap.size]? = _ from HG.out)
  have HB := Lib.hid HB.out.drew
  obtain ⟨d0, d1, d2, d3, d4, d5, d6, d7, d8, d9, d10⟩ := keeps11 (M := []) (w := w1.drew) HG.out (by simp)
  refine wp_region_mix3 (KeepsBut []) (KeepsBut.refl []) (KeepsBut.trans []) [] [(0, 0), (0, 1), (0, 2), (1, 3), (1, 4), (2, 5), (2, 6), (0, 7), (0, 8)] (by kernel_rfl) (by kernel_rfl) (fun d _ _ _ _ h => by cases d <;> exact h) ?_
  generalize w1.drew = wd at HG HB d0 d1 d2 d3 d4 d5 d6 d7 d8 d9 d10 ⊢
  repeat (first
    | (refine mix3_free (v := ?_) rfl rfl ?_ (mix3_norm (a' := ?_) ?_ ?_)
       rotate_left
       focus (intro w'; go_simp; first | done | (with_reducible rfl))
       rotate_left
       focus (simp only [Act.put, List.getElem_toArray, List.getElem_cons_zero, List.getElem_cons_succ, List.setIfInBounds_toArray, List.set_cons_zero, List.set_cons_succ]; rfl))
    | (refine mix3_pure (v := ?_) rfl rfl ?_ (mix3_norm (a' := ?_) ?_ ?_)
       rotate_left
       focus (intro w' hR; go_simp; first | done | (with_reducible rfl))
       rotate_left
       focus (simp only [Act.put, List.getElem_toArray, List.getElem_cons_zero, List.getElem_cons_succ, List.setIfInBounds_toArray, List.set_cons_zero, List.set_cons_succ]; rfl))
    | (refine mix3_freeOff rfl rfl (mix3_norm (a' := ?_) ?_ ?_)
       rotate_left
       focus (simp only [Act.put, List.getElem_toArray, List.getElem_cons_zero, List.getElem_cons_succ, List.setIfInBounds_toArray, List.set_cons_zero, List.set_cons_succ]; rfl))
    | (refine mix3_off rfl rfl (mix3_norm (a' := ?_) ?_ ?_)
       rotate_left
       focus (simp only [Act.put, List.getElem_toArray, List.getElem_cons_zero, List.getElem_cons_succ, List.setIfInBounds_toArray, List.set_cons_zero, List.set_cons_succ]; rfl)))
  clear d0 d1 d2 d3 d4 d5 d6 d7 d8 d9 d10
  refine mix3_eff rfl ?_
  simp only [List.getElem_toArray, List.getElem_cons_zero, List.getElem_cons_succ]
  go_wp2_with fail
  refine (HTo.out wd).mono ?_
  rintro e w2 ⟨rfl, hb⟩
  have HG := Lib.hid ((hb.block _ (Array.getElem?_eq_some_iff.1 HG.out).1).trans HG.out)
  have HB := Lib.hid (HB.out.trans (hb.mono HB.out.size))
  go_wp2_with fail
  refine mixQ3_normal (KeepsBut.of_below hb) rfl ?_
  clear hb HTo
  refine mix3_eff rfl ?_
  simp only [List.getElem_toArray, List.getElem_cons_zero, List.getElem_cons_succ]
  go_wp2_with fail
  have HAl := Lib.hid (refAlike_any x (told x) A (tA x A) c (tC x c) w2 (Hr.out.below HB.out) (told_reads (Hr.out.below HB.out)) HLl.out)
  rw [al] at HAl
  unfold Fr.cells at HAl
  refine HAl.out.mono ?_
  rintro e w3 ⟨rfl, hb⟩
  have HG := Lib.hid ((hb.block _ (Array.getElem?_eq_some_iff.1 HG.out).1).trans HG.out)
  have HB := Lib.hid (HB.out.trans (hb.mono HB.out.size))
  go_wp2_with fail
  refine mixQ3_normal (KeepsBut.of_below hb) rfl ?_
  clear hb HAl
  repeat (first
    | (refine mix3_free (v := ?_) rfl rfl ?_ (mix3_norm (a' := ?_) ?_ ?_)
       rotate_left
       focus (intro w'; go_simp; first | done | (with_reducible rfl))
       rotate_left
       focus (simp only [Act.put, List.getElem_toArray, List.getElem_cons_zero, List.getElem_cons_succ, List.setIfInBounds_toArray, List.set_cons_zero, List.set_cons_succ]; rfl))
    | (refine mix3_pure (v := ?_) rfl rfl ?_ (mix3_norm (a' := ?_) ?_ ?_)
       rotate_left
       focus (intro w' hR; go_simp; first | done | (with_reducible rfl))
       rotate_left
       focus (simp only [Act.put, List.getElem_toArray, List.getElem_cons_zero, List.getElem_cons_succ, List.setIfInBounds_toArray, List.set_cons_zero, List.set_cons_succ]; rfl))
    | (refine mix3_freeOff rfl rfl (mix3_norm (a' := ?_) ?_ ?_)
       rotate_left
       focus (simp only [Act.put, List.getElem_toArray, List.getElem_cons_zero, List.getElem_cons_succ, List.setIfInBounds_toArray, List.set_cons_zero, List.set_cons_succ]; rfl))
    | (refine mix3_off rfl rfl (mix3_norm (a' := ?_) ?_ ?_)
       rotate_left
       focus (simp only [Act.put, List.getElem_toArray, List.getElem_cons_zero, List.getElem_cons_succ, List.setIfInBounds_toArray, List.set_cons_zero, List.set_cons_succ]; rfl)))
  refine mix3_done ?_
  go_wp2_with fail
  go_ret2
  exact ⟨⟨#[]⟩, by rw [HE.out.2]; rfl, by rw [HE.out.1]; rfl, HB.out⟩
set_option maxHeartbeats 4000000 in
set_option maxRecDepth 100000 in
theorem refFrPutC (w : World) (x : Fr) (A : Option Addr) (c : Nat) (hr : Reads w 1 A x.l.length (sts x.l)) (hok : FrOk x) (hB : (bodyL x).length ≤ 100000000) (hl : x.l.length ≤ 2000000) (bw : bodyW x = false) (al : alikeB x (told x) = true) :
    Calls Try.prog 46 #[.agg (x.cells A c)] w fun e w' => ∃ s, e = .returned (.tuple #[.string s, .int .i64 (putE x : Nat)]) ∧ bl s = putL x ∧ Below w.heap.size w w' := by
  obtain ⟨hb, hg, _⟩ := alloc1 w (x.cells A c) 58
  have HBo := Lib.hid (refBody_any (w.alloc (.cells (x.cells A c) 58)) x A c (hr.below hb) hok hB hl)
  have Hr := Lib.hid hr
  have HLl := Lib.hid hl
  have HBd := Lib.hid hB
  have Hok := Lib.hid hok
  rw [bw] at HBo
  unfold Fr.cells at hg hb HBo ⊢
  obtain ⟨d0, d1, d2, d3, d4, d5, d6, d7, d8, d9, d10⟩ := cells11 hg
  have HG := Lib.hid hg
  have HB := Lib.hid hb
  clear hr hok hl hB hg hb
  go_enter Try.func46, Try.ntmps46
  go_wp2_with fail
  clear d0 d1 d2 d3 d4 d5 d6 d7 d8 d9 d10
  refine HBo.out.mono ?_
  rintro e w1 ⟨s, rfl, hs, hb⟩
  have HG := Lib.hid ((hb.block _ (Array.getElem?_eq_some_iff.1 HG.out).1).trans HG.out)
  have HB := Lib.hid (HB.out.trans (hb.mono HB.out.size))
  clear hb HBo
  have HE := Lib.hid (show putL x = headL x ++ bodyL x ++ be 4 (crcAdd 0 (headL x ++ bodyL x)) ∧ putE x = 0 from ⟨by unfold putL putOk; rw [bw, al]; rfl, by unfold putE putOk; rw [bw, al]; rfl⟩)
  have hk7 := bodyW_kinds bw
  have HTo := Lib.hid (fun wx => refTold_any wx x A c hk7)
  unfold Fr.cells at HTo
  clear hk7
  have hs := hs (by trivial)
  have hz : s.size ≤ 100000000 := by have h := HBd.out; rw [← hs, bl_length] at h; exact h
  have HS := Lib.hid hs
  have HZ := Lib.hid hz
  have wk := u64n_wrap x.k
  have wz := u64n_wrap ((s.size : Nat) : Int)
  have wq := wrap64_nat Hok.out.q64
  have z1 := t1s (u64n x.k)
  have z2 := t8s x.s
  have z3 := t8s x.e
  have z4 := t4s x.q
  have z5 := t2s (u64n (s.size : Nat))
  have a1 := addOk (txt 1 (u64n x.k)) (txt 8 x.s) (by (try simp only [ByteArray.size_append]); omega)
  have a2 := addOk (txt 1 (u64n x.k) ++ txt 8 x.s) (txt 8 x.e) (by (try simp only [ByteArray.size_append]); omega)
  have a3 := addOk (txt 1 (u64n x.k) ++ txt 8 x.s ++ txt 8 x.e) (txt 4 x.q) (by (try simp only [ByteArray.size_append]); omega)
  have a4 := addOk (txt 1 (u64n x.k) ++ txt 8 x.s ++ txt 8 x.e ++ txt 4 x.q) (txt 2 (u64n (s.size : Nat))) (by (try simp only [ByteArray.size_append]); omega)
  have a5 := addOk (txt 1 (u64n x.k) ++ txt 8 x.s ++ txt 8 x.e ++ txt 4 x.q ++ txt 2 (u64n (s.size : Nat))) (s) (by (try simp only [ByteArray.size_append]); omega)
  clear hs hz z1 z2 z3 z4 z5
  go_wp2_with fail
  have HG := Lib.hid (show (w1.drew).heap[w.heap.size]? = _ from HG.out)
  have HB := Lib.hid HB.out.drew
  obtain ⟨d0, d1, d2, d3, d4, d5, d6, d7, d8, d9, d10⟩ := keeps11 (M := []) (w := w1.drew) HG.out (by simp)
  refine wp_region_mix3 (KeepsBut []) (KeepsBut.refl []) (KeepsBut.trans []) [] [(0, 0), (0, 1), (0, 2), (1, 3), (1, 4), (2, 5), (2, 6), (0, 7), (0, 8)] (by kernel_rfl) (by kernel_rfl) (fun d _ _ _ _ h => by cases d <;> exact h) ?_
  generalize w1.drew = wd at HG HB d0 d1 d2 d3 d4 d5 d6 d7 d8 d9 d10 ⊢
  repeat (first
    | (refine mix3_free (v := ?_) rfl rfl ?_ (mix3_norm (a' := ?_) ?_ ?_)
       rotate_left
       focus (intro w'; go_simp; first | done | (with_reducible rfl))
       rotate_left
       focus (simp only [Act.put, List.getElem_toArray, List.getElem_cons_zero, List.getElem_cons_succ, List.setIfInBounds_toArray, List.set_cons_zero, List.set_cons_succ]; rfl))
    | (refine mix3_pure (v := ?_) rfl rfl ?_ (mix3_norm (a' := ?_) ?_ ?_)
       rotate_left
       focus (intro w' hR; go_simp; first | done | (with_reducible rfl))
       rotate_left
       focus (simp only [Act.put, List.getElem_toArray, List.getElem_cons_zero, List.getElem_cons_succ, List.setIfInBounds_toArray, List.set_cons_zero, List.set_cons_succ]; rfl))
    | (refine mix3_freeOff rfl rfl (mix3_norm (a' := ?_) ?_ ?_)
       rotate_left
       focus (simp only [Act.put, List.getElem_toArray, List.getElem_cons_zero, List.getElem_cons_succ, List.setIfInBounds_toArray, List.set_cons_zero, List.set_cons_succ]; rfl))
    | (refine mix3_off rfl rfl (mix3_norm (a' := ?_) ?_ ?_)
       rotate_left
       focus (simp only [Act.put, List.getElem_toArray, List.getElem_cons_zero, List.getElem_cons_succ, List.setIfInBounds_toArray, List.set_cons_zero, List.set_cons_succ]; rfl)))
  clear d0 d1 d2 d3 d4 d5 d6 d7 d8 d9 d10
  refine mix3_eff rfl ?_
  simp only [List.getElem_toArray, List.getElem_cons_zero, List.getElem_cons_succ]
  go_wp2_with fail
  refine (HTo.out wd).mono ?_
  rintro e w2 ⟨rfl, hb⟩
  have HG := Lib.hid ((hb.block _ (Array.getElem?_eq_some_iff.1 HG.out).1).trans HG.out)
  have HB := Lib.hid (HB.out.trans (hb.mono HB.out.size))
  go_wp2_with fail
  refine mixQ3_normal (KeepsBut.of_below hb) rfl ?_
  clear hb HTo
  refine mix3_eff rfl ?_
  simp only [List.getElem_toArray, List.getElem_cons_zero, List.getElem_cons_succ]
  go_wp2_with fail
  have HAl := Lib.hid (refAlike_any x (told x) A (tA x A) c (tC x c) w2 (Hr.out.below HB.out) (told_reads (Hr.out.below HB.out)) HLl.out)
  rw [al] at HAl
  unfold Fr.cells at HAl
  refine HAl.out.mono ?_
  rintro e w3 ⟨rfl, hb⟩
  have HG := Lib.hid ((hb.block _ (Array.getElem?_eq_some_iff.1 HG.out).1).trans HG.out)
  have HB := Lib.hid (HB.out.trans (hb.mono HB.out.size))
  go_wp2_with fail
  refine mixQ3_normal (KeepsBut.of_below hb) rfl ?_
  clear hb HAl
  repeat (first
    | (refine mix3_free (v := ?_) rfl rfl ?_ (mix3_norm (a' := ?_) ?_ ?_)
       rotate_left
       focus (intro w'; go_simp; first | done | (with_reducible rfl))
       rotate_left
       focus (simp only [Act.put, List.getElem_toArray, List.getElem_cons_zero, List.getElem_cons_succ, List.setIfInBounds_toArray, List.set_cons_zero, List.set_cons_succ]; rfl))
    | (refine mix3_pure (v := ?_) rfl rfl ?_ (mix3_norm (a' := ?_) ?_ ?_)
       rotate_left
       focus (intro w' hR; go_simp; first | done | (with_reducible rfl))
       rotate_left
       focus (simp only [Act.put, List.getElem_toArray, List.getElem_cons_zero, List.getElem_cons_succ, List.setIfInBounds_toArray, List.set_cons_zero, List.set_cons_succ]; rfl))
    | (refine mix3_freeOff rfl rfl (mix3_norm (a' := ?_) ?_ ?_)
       rotate_left
       focus (simp only [Act.put, List.getElem_toArray, List.getElem_cons_zero, List.getElem_cons_succ, List.setIfInBounds_toArray, List.set_cons_zero, List.set_cons_succ]; rfl))
    | (refine mix3_off rfl rfl (mix3_norm (a' := ?_) ?_ ?_)
       rotate_left
       focus (simp only [Act.put, List.getElem_toArray, List.getElem_cons_zero, List.getElem_cons_succ, List.setIfInBounds_toArray, List.set_cons_zero, List.set_cons_succ]; rfl)))
  refine mix3_done ?_
  go_wp2_with fail
  have HG := Lib.hid (show (w3.drew).heap[w.heap.size]? = _ from HG.out)
  have HB := Lib.hid HB.out.drew
  obtain ⟨d0, d1, d2, d3, d4, d5, d6, d7, d8, d9, d10⟩ := keeps11 (M := []) (w := w3.drew) HG.out (by simp)
  refine wp_region_mix3 (KeepsBut []) (KeepsBut.refl []) (KeepsBut.trans []) [] [(0, 0), (0, 4), (0, 8), (0, 12), (0, 17), (0, 18), (0, 22), (1, 1), (1, 2), (1, 5), (1, 9), (1, 13), (1, 14), (1, 19), (2, 3), (2, 6), (0, 7), (2, 10), (0, 11), (2, 15), (0, 16), (2, 20), (0, 21), (0, 23), (0, 24)] (by kernel_rfl) (by kernel_rfl) (fun d _ _ _ _ h => by cases d <;> exact h) ?_
  generalize w3.drew = wd at HG HB d0 d1 d2 d3 d4 d5 d6 d7 d8 d9 d10 ⊢
  repeat (first
    | (refine mix3_free (v := ?_) rfl rfl ?_ (mix3_norm (a' := ?_) ?_ ?_)
       rotate_left
       focus (intro w'; go_simp; first | done | (with_reducible rfl))
       rotate_left
       focus (simp only [Act.put, List.getElem_toArray, List.getElem_cons_zero, List.getElem_cons_succ, List.setIfInBounds_toArray, List.set_cons_zero, List.set_cons_succ]; rfl))
    | (refine mix3_pure (v := ?_) rfl rfl ?_ (mix3_norm (a' := ?_) ?_ ?_)
       rotate_left
       focus (intro w' hR; go_simp; first | done | (with_reducible rfl))
       rotate_left
       focus (simp only [Act.put, List.getElem_toArray, List.getElem_cons_zero, List.getElem_cons_succ, List.setIfInBounds_toArray, List.set_cons_zero, List.set_cons_succ]; rfl))
    | (refine mix3_freeOff rfl rfl (mix3_norm (a' := ?_) ?_ ?_)
       rotate_left
       focus (simp only [Act.put, List.getElem_toArray, List.getElem_cons_zero, List.getElem_cons_succ, List.setIfInBounds_toArray, List.set_cons_zero, List.set_cons_succ]; rfl))
    | (refine mix3_off rfl rfl (mix3_norm (a' := ?_) ?_ ?_)
       rotate_left
       focus (simp only [Act.put, List.getElem_toArray, List.getElem_cons_zero, List.getElem_cons_succ, List.setIfInBounds_toArray, List.set_cons_zero, List.set_cons_succ]; rfl)))
  clear d0 d1 d2 d3 d4 d5 d6 d7 d8 d9 d10
  refine mix3_eff rfl ?_
  simp only [List.getElem_toArray, List.getElem_cons_zero, List.getElem_cons_succ]
  go_wp2_with fail
  refine (text_any 1 (u64n x.k) (u64n_lt _) _).mono ?_
  rintro e w4 ⟨rfl, hb⟩
  have HB := Lib.hid (HB.out.trans (hb.mono HB.out.size))
  go_wp2_with fail
  refine mixQ3_normal (KeepsBut.of_below hb) rfl ?_
  clear hb
  repeat (first
    | (refine mix3_free (v := ?_) rfl rfl ?_ (mix3_norm (a' := ?_) ?_ ?_)
       rotate_left
       focus (intro w'; go_simp; first | done | (with_reducible rfl))
       rotate_left
       focus (simp only [Act.put, List.getElem_toArray, List.getElem_cons_zero, List.getElem_cons_succ, List.setIfInBounds_toArray, List.set_cons_zero, List.set_cons_succ]; rfl))
    | (refine mix3_pure (v := ?_) rfl rfl ?_ (mix3_norm (a' := ?_) ?_ ?_)
       rotate_left
       focus (intro w' hR; go_simp; first | done | (with_reducible rfl))
       rotate_left
       focus (simp only [Act.put, List.getElem_toArray, List.getElem_cons_zero, List.getElem_cons_succ, List.setIfInBounds_toArray, List.set_cons_zero, List.set_cons_succ]; rfl))
    | (refine mix3_freeOff rfl rfl (mix3_norm (a' := ?_) ?_ ?_)
       rotate_left
       focus (simp only [Act.put, List.getElem_toArray, List.getElem_cons_zero, List.getElem_cons_succ, List.setIfInBounds_toArray, List.set_cons_zero, List.set_cons_succ]; rfl))
    | (refine mix3_off rfl rfl (mix3_norm (a' := ?_) ?_ ?_)
       rotate_left
       focus (simp only [Act.put, List.getElem_toArray, List.getElem_cons_zero, List.getElem_cons_succ, List.setIfInBounds_toArray, List.set_cons_zero, List.set_cons_succ]; rfl)))
  refine mix3_eff rfl ?_
  simp only [List.getElem_toArray, List.getElem_cons_zero, List.getElem_cons_succ]
  go_wp2_with fail
  refine (text_any 8 (x.s) (Hok.out.1) _).mono ?_
  rintro e w5 ⟨rfl, hb⟩
  have HB := Lib.hid (HB.out.trans (hb.mono HB.out.size))
  go_wp2_with fail
  refine mixQ3_normal (KeepsBut.of_below hb) rfl ?_
  clear hb
  repeat (first
    | (refine mix3_free (v := ?_) rfl rfl ?_ (mix3_norm (a' := ?_) ?_ ?_)
       rotate_left
       focus (intro w'; go_simp; first | done | (with_reducible rfl))
       rotate_left
       focus (simp only [Act.put, List.getElem_toArray, List.getElem_cons_zero, List.getElem_cons_succ, List.setIfInBounds_toArray, List.set_cons_zero, List.set_cons_succ]; rfl))
    | (refine mix3_pure (v := ?_) rfl rfl ?_ (mix3_norm (a' := ?_) ?_ ?_)
       rotate_left
       focus (intro w' hR; go_simp; first | done | (with_reducible rfl))
       rotate_left
       focus (simp only [Act.put, List.getElem_toArray, List.getElem_cons_zero, List.getElem_cons_succ, List.setIfInBounds_toArray, List.set_cons_zero, List.set_cons_succ]; rfl))
    | (refine mix3_freeOff rfl rfl (mix3_norm (a' := ?_) ?_ ?_)
       rotate_left
       focus (simp only [Act.put, List.getElem_toArray, List.getElem_cons_zero, List.getElem_cons_succ, List.setIfInBounds_toArray, List.set_cons_zero, List.set_cons_succ]; rfl))
    | (refine mix3_off rfl rfl (mix3_norm (a' := ?_) ?_ ?_)
       rotate_left
       focus (simp only [Act.put, List.getElem_toArray, List.getElem_cons_zero, List.getElem_cons_succ, List.setIfInBounds_toArray, List.set_cons_zero, List.set_cons_succ]; rfl)))
  refine mix3_eff rfl ?_
  simp only [List.getElem_toArray, List.getElem_cons_zero, List.getElem_cons_succ]
  go_wp2_with fail
  refine (text_any 8 (x.e) (Hok.out.2.1) _).mono ?_
  rintro e w6 ⟨rfl, hb⟩
  have HB := Lib.hid (HB.out.trans (hb.mono HB.out.size))
  go_wp2_with fail
  refine mixQ3_normal (KeepsBut.of_below hb) rfl ?_
  clear hb
  repeat (first
    | (refine mix3_free (v := ?_) rfl rfl ?_ (mix3_norm (a' := ?_) ?_ ?_)
       rotate_left
       focus (intro w'; go_simp; first | done | (with_reducible rfl))
       rotate_left
       focus (simp only [Act.put, List.getElem_toArray, List.getElem_cons_zero, List.getElem_cons_succ, List.setIfInBounds_toArray, List.set_cons_zero, List.set_cons_succ]; rfl))
    | (refine mix3_pure (v := ?_) rfl rfl ?_ (mix3_norm (a' := ?_) ?_ ?_)
       rotate_left
       focus (intro w' hR; go_simp; first | done | (with_reducible rfl))
       rotate_left
       focus (simp only [Act.put, List.getElem_toArray, List.getElem_cons_zero, List.getElem_cons_succ, List.setIfInBounds_toArray, List.set_cons_zero, List.set_cons_succ]; rfl))
    | (refine mix3_freeOff rfl rfl (mix3_norm (a' := ?_) ?_ ?_)
       rotate_left
       focus (simp only [Act.put, List.getElem_toArray, List.getElem_cons_zero, List.getElem_cons_succ, List.setIfInBounds_toArray, List.set_cons_zero, List.set_cons_succ]; rfl))
    | (refine mix3_off rfl rfl (mix3_norm (a' := ?_) ?_ ?_)
       rotate_left
       focus (simp only [Act.put, List.getElem_toArray, List.getElem_cons_zero, List.getElem_cons_succ, List.setIfInBounds_toArray, List.set_cons_zero, List.set_cons_succ]; rfl)))
  refine mix3_eff rfl ?_
  simp only [List.getElem_toArray, List.getElem_cons_zero, List.getElem_cons_succ]
  go_wp2_with fail
  refine (text_any 4 (x.q) (Hok.out.q64) _).mono ?_
  rintro e w7 ⟨rfl, hb⟩
  have HB := Lib.hid (HB.out.trans (hb.mono HB.out.size))
  go_wp2_with fail
  refine mixQ3_normal (KeepsBut.of_below hb) rfl ?_
  clear hb
  repeat (first
    | (refine mix3_free (v := ?_) rfl rfl ?_ (mix3_norm (a' := ?_) ?_ ?_)
       rotate_left
       focus (intro w'; go_simp; first | done | (with_reducible rfl))
       rotate_left
       focus (simp only [Act.put, List.getElem_toArray, List.getElem_cons_zero, List.getElem_cons_succ, List.setIfInBounds_toArray, List.set_cons_zero, List.set_cons_succ]; rfl))
    | (refine mix3_pure (v := ?_) rfl rfl ?_ (mix3_norm (a' := ?_) ?_ ?_)
       rotate_left
       focus (intro w' hR; go_simp; first | done | (with_reducible rfl))
       rotate_left
       focus (simp only [Act.put, List.getElem_toArray, List.getElem_cons_zero, List.getElem_cons_succ, List.setIfInBounds_toArray, List.set_cons_zero, List.set_cons_succ]; rfl))
    | (refine mix3_freeOff rfl rfl (mix3_norm (a' := ?_) ?_ ?_)
       rotate_left
       focus (simp only [Act.put, List.getElem_toArray, List.getElem_cons_zero, List.getElem_cons_succ, List.setIfInBounds_toArray, List.set_cons_zero, List.set_cons_succ]; rfl))
    | (refine mix3_off rfl rfl (mix3_norm (a' := ?_) ?_ ?_)
       rotate_left
       focus (simp only [Act.put, List.getElem_toArray, List.getElem_cons_zero, List.getElem_cons_succ, List.setIfInBounds_toArray, List.set_cons_zero, List.set_cons_succ]; rfl)))
  refine mix3_eff rfl ?_
  simp only [List.getElem_toArray, List.getElem_cons_zero, List.getElem_cons_succ]
  go_wp2_with fail
  refine (text_any 2 (u64n (s.size : Nat)) (u64n_lt _) _).mono ?_
  rintro e w8 ⟨rfl, hb⟩
  have HB := Lib.hid (HB.out.trans (hb.mono HB.out.size))
  go_wp2_with fail
  refine mixQ3_normal (KeepsBut.of_below hb) rfl ?_
  clear hb
  repeat (first
    | (refine mix3_free (v := ?_) rfl rfl ?_ (mix3_norm (a' := ?_) ?_ ?_)
       rotate_left
       focus (intro w'; go_simp; first | done | (with_reducible rfl))
       rotate_left
       focus (simp only [Act.put, List.getElem_toArray, List.getElem_cons_zero, List.getElem_cons_succ, List.setIfInBounds_toArray, List.set_cons_zero, List.set_cons_succ]; rfl))
    | (refine mix3_pure (v := ?_) rfl rfl ?_ (mix3_norm (a' := ?_) ?_ ?_)
       rotate_left
       focus (intro w' hR; go_simp; first | done | (with_reducible rfl))
       rotate_left
       focus (simp only [Act.put, List.getElem_toArray, List.getElem_cons_zero, List.getElem_cons_succ, List.setIfInBounds_toArray, List.set_cons_zero, List.set_cons_succ]; rfl))
    | (refine mix3_freeOff rfl rfl (mix3_norm (a' := ?_) ?_ ?_)
       rotate_left
       focus (simp only [Act.put, List.getElem_toArray, List.getElem_cons_zero, List.getElem_cons_succ, List.setIfInBounds_toArray, List.set_cons_zero, List.set_cons_succ]; rfl))
    | (refine mix3_off rfl rfl (mix3_norm (a' := ?_) ?_ ?_)
       rotate_left
       focus (simp only [Act.put, List.getElem_toArray, List.getElem_cons_zero, List.getElem_cons_succ, List.setIfInBounds_toArray, List.set_cons_zero, List.set_cons_succ]; rfl)))
  refine mix3_done ?_
  clear a1 a2 a3 a4 a5 wk wz wq
  have HX := Lib.hid (show bl (txt 1 (u64n x.k) ++ txt 8 x.s ++ txt 8 x.e ++ txt 4 x.q ++ txt 2 (u64n (s.size : Nat)) ++ s) = headL x ++ bodyL x by
    simp only [bl_append, t1b, t8b, t4b, t2b]
    unfold headL
    rw [← HS.out, bl_length])
  obtain ⟨T, hT⟩ : ∃ T, txt 1 (u64n x.k) ++ txt 8 x.s ++ txt 8 x.e ++ txt 4 x.q ++ txt 2 (u64n (s.size : Nat)) ++ s = T := ⟨_, rfl⟩
  have HTs := Lib.hid (show T.size ≤ 100000023 by
    have h := congrArg List.length HX.out
    rw [bl_length, hT] at h
    have h2 := HBd.out
    unfold headL at h
    simp only [List.length_append, be_length] at h
    omega)
  rw [hT] at HX ⊢
  clear hT
  go_wp2_with (refine wpList_bytes_of rfl (.tmp 46) rfl T rfl ?_)
  intro A1 c1 w9 hr1 hc1 hb
  have HB := Lib.hid (HB.out.trans (hb.mono HB.out.size))
  have HQ := Lib.hid (refSum_any A1 (bl T) c1 w9 hr1 (by rw [bl_length]; have := HTs.out; unfold maxLen; omega))
  have hcl := crcAdd_lt 0 (bl T)
  have wc := wrap64_nat (show crcAdd 0 (bl T) < 18446744073709551616 by omega)
  have HCl := Lib.hid hcl
  clear hr1 hc1 hb hcl
  go_wp2_with fail
  refine HQ.out.mono ?_
  rintro e w' ⟨rfl, rfl⟩
  have ha := addOk T (txt 4 (crcAdd 0 (bl T))) (by have := HTs.out; have := t4s (crcAdd 0 (bl T)); omega)
  go_wp2_with fail
  refine (text_any 4 (crcAdd 0 (bl T)) (by have := HCl.out; omega) _).mono ?_
  rintro e w10 ⟨rfl, hb⟩
  have HB := Lib.hid (HB.out.trans (hb.mono HB.out.size))
  clear hb HQ
  go_wp2_with fail
  go_ret2
  exact ⟨T ++ txt 4 (crcAdd 0 (bl T)), by rw [HE.out.2]; rfl, by rw [HE.out.1, bl_append, t4b, HX.out], HB.out⟩
theorem refFrPut_any (w : World) (x : Fr) (A : Option Addr) (c : Nat) (hr : Reads w 1 A x.l.length (sts x.l)) (hok : FrOk x) (hB : (bodyL x).length ≤ 100000000) (hl : x.l.length ≤ 2000000) :
    Calls Try.prog 46 #[.agg (x.cells A c)] w fun e w' => ∃ s, e = .returned (.tuple #[.string s, .int .i64 (putE x : Nat)]) ∧ bl s = putL x ∧ Below w.heap.size w w' := by
  cases bw : bodyW x with
  | true => exact refFrPutA w x A c hr hok hB hl bw
  | false =>
    cases al : alikeB x (told x) with
    | false => exact refFrPutB w x A c hr hok hB hl bw al
    | true => exact refFrPutC w x A c hr hok hB hl bw al
end Go.Proofs.Ytebcginnnjigjaa

end
section
/- The reference's reader with its bytes ahead of it; the world in the midst of the reference's frame.Get. -/
open Go.RowKit
namespace Go.Proofs.Ytebcginnnjigjaa

/-- Block g is a reference's reader in the state s; its bytes lie in blocks ahead of g. -/
def IsSB (w : World) (g : Nat) (s : RdS) : Prop :=
  ∃ A c B k, IsS w g A c B k s.2 ∧ B.drop k = s.1 ∧ ∀ W, SameTo g w W → Reads W 1 A B.length (bv B)
section
variable {w w' : World} {g : Nat} {s : RdS}
theorem IsSB.lt (h : IsSB w g s) : g < w.heap.size := by
  obtain ⟨A, c, B, k, h1, _⟩ := h
  exact h1.lt
theorem IsSB.keep (h : IsSB w g s) (h' : SameTo (g + 1) w w') : IsSB w' g s := by
  obtain ⟨A, c, B, k, h1, h2, h3⟩ := h
  exact ⟨A, c, B, k, ⟨(h' g (by omega)).trans h1.1, h3 w' (fun i hi => h' i (by omega)), h1.2.2⟩, h2, fun W hW => h3 W (SameTo.trans (fun i hi => h' i (by omega)) hW)⟩
theorem IsSB.below (h : IsSB w g s) (hb : Below w.heap.size w w') : IsSB w' g s := h.keep (fun k hk => hb.block k (by have := h.lt; omega))
end
/-- What a step of it leaves. -/
def QPost (w : World) (g : Nat) (s : RdS) (w' : World) : Prop := IsSB w' g s ∧ Chg (fun i => i = g) w w'
theorem keepsTo {w W : World} {g : Nat} (hg : g ≤ w.heap.size) (h : KeepsBut [g] w W) : SameTo g w W := fun k hk => h.2 k (by omega) (by simp; omega)
theorem newSB {w : World} {A : Option Addr} {c : Nat} {B : List UInt8} (hr : Reads w 1 A B.length (bv B)) (hc : B.length ≤ c) (hm : B.length ≤ maxLen) :
    IsSB (w.alloc (.cells #[.slice A B.length c, .int .i64 0, .int .i64 0] 99)) w.heap.size (B, 0) := by
  have hk : ∀ W, SameTo w.heap.size (w.alloc (.cells #[.slice A B.length c, .int .i64 0, .int .i64 0] 99)) W → Reads W 1 A B.length (bv B) := fun W hW =>
    hr.keep fun p u hp => by
      have hlt := World.block_lt_of_cell? _ _ hp
      have h2 := hW _ hlt
      rw [heap_alloc_old _ _ hlt] at h2
      rw [← hp]
      unfold World.cell?
      rw [h2]
  exact ⟨A, c, B, 0, ⟨heap_alloc_new _ _, hk _ (SameTo.refl _ _), hc, hm, Nat.zero_le _⟩, List.drop_zero, hk⟩

theorem numSB_any {w : World} {g : Nat} {s : RdS} (h : IsSB w g s) (x : Nat) :
    Calls Try.prog 42 #[.pointer (some ⟨g, 0, none⟩), .int .i64 (x : Int)] w fun r w' => r = .returned (.int .u64 (nN s x : Nat)) ∧ QPost w g (nS s x) w' := by
  obtain ⟨A, c, B, k, h1, h2, h3⟩ := h
  refine (refNum_any g A c B k s.2 (x : Int) w h1).mono ?_
  rintro r w' ⟨e1, ⟨k', e2, e3⟩, e4⟩
  rw [h2] at e1 e2 e3
  refine ⟨by rw [e1]; unfold nN; rfl, ⟨A, c, B, k', ?_, ?_, fun W hW => h3 W ((SameTo.grown h1.lt e4).trans hW)⟩, (Chg.of_grown e4).mono (fun i _ hi => Option.some.inj hi)⟩
  · unfold nS; exact e2
  · unfold nS; exact e3
theorem bytesSB_any {w : World} {g : Nat} {s : RdS} (h : IsSB w g s) (x : Nat) :
    Calls Try.prog 45 #[.pointer (some ⟨g, 0, none⟩), .int .i64 (x : Int)] w fun r w' => ∃ A1 n c1, r = .returned (.slice A1 n c1) ∧ (∀ W, SameTo g w' W → (convert 61 9 (.slice A1 n c1)).run Try.prog W = .ok (.string (tN s x)) W) ∧ QPost w g (tS s x) w' := by
  obtain ⟨A, c, B, k, h1, h2, h3⟩ := h
  refine (refBytes_any g A c B k s.2 (x : Int) w h1).mono ?_
  rintro r w' ⟨A1, c1, e1, er, ⟨k', e2, e3⟩, e4⟩
  rw [h2] at e1 e2 e3 er
  have hs := SameTo.grown h1.lt e4
  refine ⟨A1, _, c1, e1, fun W hW => ?_, ⟨A, c, B, k', ?_, ?_, fun W hW => h3 W (hs.trans hW)⟩, (Chg.of_grown e4).mono (fun i _ hi => Option.some.inj hi)⟩
  · have h4 := run_string_of_bytes c1 (er W (h3 W (hs.trans hW)))
    unfold tN
    exact h4
  · unfold tS; exact e2
  · unfold tS; exact e3
/-- In the midst of it: the result's cells at b2, the reader at g, the frame at bf, its list's texts at A, behind all those. -/
structure QS (w0 : World) (b2 g bf : Nat) (cs : Array Value) (A : Option Addr) (c : Nat) (L : List ByteArray) (s : RdS) (w : World) : Prop where
  b : Below w0.heap.size w0 w
  h2 : w.heap[b2]? = some (.cells fr0c 58 (0, 0))
  hbf : w.heap[bf]? = some (.cells cs 58 (0, 0))
  rd : IsSB w g s
  row : SRow w A c L
  n2 : w0.heap.size ≤ b2
  n3 : b2 < g
  n5 : g < bf
  n6 : ∀ k, blk A = some k → bf < k
/-- As QS, ahead of the frame's own block. -/
structure QS0 (w0 : World) (b2 g : Nat) (s : RdS) (w : World) : Prop where
  b : Below w0.heap.size w0 w
  h2 : w.heap[b2]? = some (.cells fr0c 58 (0, 0))
  rd : IsSB w g s
  n2 : w0.heap.size ≤ b2
  n3 : b2 < g
section
variable {w0 w w' : World} {b2 g bf : Nat} {cs : Array Value} {A : Option Addr} {c : Nat} {L : List ByteArray} {s s' : RdS}
theorem QS.lt (h : QS w0 b2 g bf cs A c L s w) : bf < w.heap.size := (Array.getElem?_eq_some_iff.1 h.hbf).1
theorem QS0.step (h : QS0 w0 b2 g s w) (hp : QPost w g s' w') : QS0 w0 b2 g s' w' := by
  have hlt := h.rd.lt
  have n2 := h.n2; have n3 := h.n3
  exact ⟨h.b.trans (hp.2.below (fun i hi e => by omega) h.b.size), (hp.2.block b2 (by omega) (by omega)).trans h.h2, hp.1, n2, n3⟩
theorem QS.step (h : QS w0 b2 g bf cs A c L s w) (hp : QPost w g s' w') : QS w0 b2 g bf cs A c L s' w' := by
  have hlt := h.lt
  have n2 := h.n2; have n3 := h.n3; have n5 := h.n5
  exact ⟨h.b.trans (hp.2.below (fun i hi e => by omega) h.b.size), (hp.2.block b2 (by omega) (by omega)).trans h.h2, (hp.2.block bf hlt (by omega)).trans h.hbf, hp.1,
    h.row.chg hp.2 (fun k hk e => by have := h.n6 k hk; omega), n2, n3, n5, h.n6⟩
theorem QS.below (h : QS w0 b2 g bf cs A c L s w) (hb : Below w.heap.size w w') : QS w0 b2 g bf cs A c L s w' := by
  have hlt := h.lt
  have n2 := h.n2; have n3 := h.n3; have n5 := h.n5
  exact ⟨h.b.trans (hb.mono h.b.size), (hb.block b2 (by omega)).trans h.h2, (hb.block bf hlt).trans h.hbf, h.rd.below hb, h.row.below hb, n2, n3, n5, h.n6⟩
theorem QS0.below (h : QS0 w0 b2 g s w) (hb : Below w.heap.size w w') : QS0 w0 b2 g s w' := by
  have hlt := h.rd.lt
  have n2 := h.n2; have n3 := h.n3
  exact ⟨h.b.trans (hb.mono h.b.size), (hb.block b2 (by omega)).trans h.h2, h.rd.below hb, n2, n3⟩
theorem QS.set (h : QS w0 b2 g bf cs A c L s w) (j : Nat) (v : Value) : QS w0 b2 g bf (cs.setIfInBounds j v) A c L s (w.setCell ⟨bf, j, none⟩ v) := by
  have hlt := h.lt
  have n2 := h.n2; have n3 := h.n3; have n5 := h.n5
  have hc : Chg (fun i => i = bf) w (w.setCell ⟨bf, j, none⟩ v) := (Chg.refl _ w).set bf j v (fun _ => rfl)
  exact ⟨h.b.trans (hc.below (fun i hi e => by omega) h.b.size), (hc.block b2 (by omega) (by omega)).trans h.h2, by rw [heap_setCell_same _ _ _ _ _ _ h.hbf],
    h.rd.keep (fun k hk => hc.block k (by omega) (by omega)), h.row.chg hc (fun k hk e => by have := h.n6 k hk; omega), n2, n3, n5, h.n6⟩
theorem QS.rowTo (h : QS w0 b2 g bf cs A c L s w) {A1 : Option Addr} {c1 : Nat} {L1 : List ByteArray} (hr : SRow w' A1 c1 L1) (hc : Chg (fun i => blk A = some i) w w') (hk : ∀ k, blk A1 = some k → blk A = some k ∨ k = w.heap.size) : QS w0 b2 g bf cs A1 c1 L1 s w' := by
  have hlt := h.lt
  have n2 := h.n2; have n3 := h.n3; have n5 := h.n5
  exact ⟨h.b.trans (hc.below (fun i hi e => by have := h.n6 i e; omega) h.b.size), (hc.block b2 (by omega) (fun e => by have := h.n6 _ e; omega)).trans h.h2, (hc.block bf (by omega) (fun e => by have := h.n6 _ e; omega)).trans h.hbf,
    h.rd.keep (fun k hk => hc.block k (by omega) (fun e => by have := h.n6 _ e; omega)), hr, n2, n3, n5, fun k h1 => by rcases hk k h1 with h2 | h2; exact h.n6 k h2; omega⟩
/-- The frame's block laid. -/
theorem QS0.frame (h : QS0 w0 b2 g s w) (x : Array Value) : QS w0 b2 g w.heap.size x none 0 [] s (w.alloc (.cells x 58)) := by
  have h1 := h.below (w' := w.alloc (.cells x 58)) (alloc1 w _ _).1
  exact ⟨h1.b, h1.h2, (alloc1 w _ _).2.1, h1.rd, SRow.nil _, h1.n2, h1.n3, h.rd.lt, by simp [blk]⟩
theorem QS.drew (h : QS w0 b2 g bf cs A c L s w) : QS w0 b2 g bf cs A c L s w.drew := h.below ((Below.refl _ _).drew)
theorem QS.fin (h : QS w0 b2 g bf cs A c L s w) (hc : Chg (fun i => i = b2) w w') : SOut w0 w' A c L := by
  have n2 := h.n2; have n3 := h.n3; have n5 := h.n5
  exact ⟨h.row.chg hc (fun k hk e => by have := h.n6 k hk; omega), fun k hk => by have := h.n6 k hk; omega, h.b.trans (hc.below (fun i hi e => by omega) h.b.size)⟩
theorem QS.zero (h : QS w0 b2 g bf cs A c L s w) (hc : Chg (fun i => i = b2) w w') : Below w0.heap.size w0 w' := (h.fin hc).2.2
end
end Go.Proofs.Ytebcginnnjigjaa

end
