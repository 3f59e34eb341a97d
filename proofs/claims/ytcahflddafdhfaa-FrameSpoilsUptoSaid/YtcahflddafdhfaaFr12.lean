/- The reference's frames as bytes. -/
import Derived.Test.YtcahflddafdhfaaFr10
import Derived.Test.YtcahflddafdhfaaFr11
import Derived.Test.YtcahflddafdhfaaCrcRef
open Go.RowKit
namespace Go.Proofs.Ytcahflddafdhfaa

theorem bodyW_kinds {x : Fr} (h : bodyW x = false) : x.k = 1 ∨ x.k = 2 ∨ x.k = 3 ∨ x.k = 4 ∨ x.k = 5 ∨ x.k = 6 ∨ x.k = 7 := by
  unfold bodyW at h
  by_cases h1 : x.k = 1
  · omega
  by_cases h2 : x.k = 2
  · omega
  by_cases h35 : x.k = 3 ∨ x.k = 5
  · omega
  by_cases h4 : x.k = 4
  · omega
  by_cases h6 : x.k = 6
  · omega
  rw [if_neg h1, if_neg h2, if_neg h35, if_neg h4, if_neg h6] at h
  have := of_decide_eq_false h
  omega
set_option maxHeartbeats 4000000 in
set_option maxRecDepth 100000 in
theorem refFrPutA (w : World) (x : Fr) (A : Option Addr) (c : Nat) (hr : Reads w 1 A x.l.length (sts x.l)) (hok : FrOk x) (hB : (bodyL x).length ≤ 100000000) (hl : x.l.length ≤ 2000000) (bw : bodyW x = true) :
    Calls Try.prog 21 #[.agg (x.cells A c)] w fun e w' => ∃ s, e = .returned (.tuple #[.string s, .int .i64 (putE x : Nat)]) ∧ bl s = putL x ∧ Below w.heap.size w w' := by
  obtain ⟨hb, hg, _⟩ := alloc1 w (x.cells A c) 41
  have HBo := Lib.hid (refBody_any (w.alloc (.cells (x.cells A c) 41)) x A c (hr.below hb) hok hB hl)
  have Hr := Lib.hid hr
  have HLl := Lib.hid hl
  have HBd := Lib.hid hB
  have Hok := Lib.hid hok
  rw [bw] at HBo
  unfold Fr.cells at hg hb HBo ⊢
  obtain ⟨d0, d1, d2, d3, d4, d5, d6, d7, d8, d9, d10⟩ := cells11 hg
  have HG := Lib.hid hg
  have HB := Lib.hid hb
  clear hr hok hl hB hg hb
  go_enter Try.func21, Try.ntmps21
  go_wp2_with fail
  clear d0 d1 d2 d3 d4 d5 d6 d7 d8 d9 d10
  refine HBo.out.mono ?_
  rintro e w1 ⟨s, rfl, hs, hb⟩
  have HG := Lib.hid ((hb.block _ (Array.getElem?_eq_some_iff.1 HG.out).1).trans HG.out)
  have HB := Lib.hid (HB.out.trans (hb.mono HB.out.size))
  clear hb HBo
  have HE := Lib.hid (show putL x = [] ∧ putE x = 6 from ⟨by unfold putL putOk; rw [bw]; rfl, by unfold putE putOk; rw [bw]; rfl⟩)
  clear hs
  go_wp2_with fail
  have HG := Lib.hid (show (w1.drew).heap[w.heap.size]? = _ from HG.out)
  have HB := Lib.hid HB.out.drew
  obtain ⟨d0, d1, d2, d3, d4, d5, d6, d7, d8, d9, d10⟩ := keeps11 (M := []) (w := w1.drew) HG.out (by simp)
  refine wp_region_mix3 (KeepsBut []) (KeepsBut.refl []) (KeepsBut.trans []) [] [(0, 0), (0, 1), (0, 2), (1, 3), (1, 4), (2, 5), (2, 6), (0, 7), (0, 8)] (by kernel_rfl) (by kernel_rfl) (fun d _ _ _ _ h => by cases d <;> exact h) ?_
  generalize w1.drew = wd at HG HB d0 d1 d2 d3 d4 d5 d6 d7 d8 d9 d10 ⊢
  repeat (first
    | (refine mix3_free (v := ?_) rfl rfl ?_ (mix3_norm (a' := ?_) ?_ ?_)
       rotate_left
       focus (intro w'; go_simp; first | done | (with_reducible rfl))
       rotate_left
       focus (simp only [Act.put, List.getElem_toArray, List.getElem_cons_zero, List.getElem_cons_succ, List.setIfInBounds_toArray, List.set_cons_zero, List.set_cons_succ]; rfl))
    | (refine mix3_pure (v := ?_) rfl rfl ?_ (mix3_norm (a' := ?_) ?_ ?_)
       rotate_left
       focus (intro w' hR; go_simp; first | done | (with_reducible rfl))
       rotate_left
       focus (simp only [Act.put, List.getElem_toArray, List.getElem_cons_zero, List.getElem_cons_succ, List.setIfInBounds_toArray, List.set_cons_zero, List.set_cons_succ]; rfl))
    | (refine mix3_freeOff rfl rfl (mix3_norm (a' := ?_) ?_ ?_)
       rotate_left
       focus (simp only [Act.put, List.getElem_toArray, List.getElem_cons_zero, List.getElem_cons_succ, List.setIfInBounds_toArray, List.set_cons_zero, List.set_cons_succ]; rfl))
    | (refine mix3_off rfl rfl (mix3_norm (a' := ?_) ?_ ?_)
       rotate_left
       focus (simp only [Act.put, List.getElem_toArray, List.getElem_cons_zero, List.getElem_cons_succ, List.setIfInBounds_toArray, List.set_cons_zero, List.set_cons_succ]; rfl)))
  clear d0 d1 d2 d3 d4 d5 d6 d7 d8 d9 d10
  refine mix3_skip (KeepsBut.refl []) rfl rfl (mix3_norm (a' := ?_) ?_ ?_)
  rotate_left
  focus (simp only [Act.put, List.getElem_toArray, List.getElem_cons_zero, List.getElem_cons_succ, List.setIfInBounds_toArray, List.set_cons_zero, List.set_cons_succ]; rfl)
  refine mix3_skip (KeepsBut.refl []) rfl rfl (mix3_norm (a' := ?_) ?_ ?_)
  rotate_left
  focus (simp only [Act.put, List.getElem_toArray, List.getElem_cons_zero, List.getElem_cons_succ, List.setIfInBounds_toArray, List.set_cons_zero, List.set_cons_succ]; rfl)
  repeat (first
    | (refine mix3_free (v := ?_) rfl rfl ?_ (mix3_norm (a' := ?_) ?_ ?_)
       rotate_left
       focus (intro w'; go_simp; first | done | (with_reducible rfl))
       rotate_left
       focus (simp only [Act.put, List.getElem_toArray, List.getElem_cons_zero, List.getElem_cons_succ, List.setIfInBounds_toArray, List.set_cons_zero, List.set_cons_succ]; rfl))
    | (refine mix3_pure (v := ?_) rfl rfl ?_ (mix3_norm (a' := ?_) ?_ ?_)
       rotate_left
       focus (intro w' hR; go_simp; first | done | (with_reducible rfl))
       rotate_left
       focus (simp only [Act.put, List.getElem_toArray, List.getElem_cons_zero, List.getElem_cons_succ, List.setIfInBounds_toArray, List.set_cons_zero, List.set_cons_succ]; rfl))
    | (refine mix3_freeOff rfl rfl (mix3_norm (a' := ?_) ?_ ?_)
       rotate_left
       focus (simp only [Act.put, List.getElem_toArray, List.getElem_cons_zero, List.getElem_cons_succ, List.setIfInBounds_toArray, List.set_cons_zero, List.set_cons_succ]; rfl))
    | (refine mix3_off rfl rfl (mix3_norm (a' := ?_) ?_ ?_)
       rotate_left
       focus (simp only [Act.put, List.getElem_toArray, List.getElem_cons_zero, List.getElem_cons_succ, List.setIfInBounds_toArray, List.set_cons_zero, List.set_cons_succ]; rfl)))
  refine mix3_done ?_
  go_wp2_with fail
  go_ret2
  exact ⟨⟨#[]⟩, by rw [HE.out.2]; rfl, by rw [HE.out.1]; rfl, HB.out⟩
set_option maxHeartbeats 4000000 in
set_option maxRecDepth 100000 in
theorem refFrPutB (w : World) (x : Fr) (A : Option Addr) (c : Nat) (hr : Reads w 1 A x.l.length (sts x.l)) (hok : FrOk x) (hB : (bodyL x).length ≤ 100000000) (hl : x.l.length ≤ 2000000) (bw : bodyW x = false) (al : alikeB x (told x) = false) :
    Calls Try.prog 21 #[.agg (x.cells A c)] w fun e w' => ∃ s, e = .returned (.tuple #[.string s, .int .i64 (putE x : Nat)]) ∧ bl s = putL x ∧ Below w.heap.size w w' := by
  obtain ⟨hb, hg, _⟩ := alloc1 w (x.cells A c) 41
  have HBo := Lib.hid (refBody_any (w.alloc (.cells (x.cells A c) 41)) x A c (hr.below hb) hok hB hl)
  have Hr := Lib.hid hr
  have HLl := Lib.hid hl
  have HBd := Lib.hid hB
  have Hok := Lib.hid hok
  rw [bw] at HBo
  unfold Fr.cells at hg hb HBo ⊢
  obtain ⟨d0, d1, d2, d3, d4, d5, d6, d7, d8, d9, d10⟩ := cells11 hg
  have HG := Lib.hid hg
  have HB := Lib.hid hb
  clear hr hok hl hB hg hb
  go_enter Try.func21, Try.ntmps21
  go_wp2_with fail
  clear d0 d1 d2 d3 d4 d5 d6 d7 d8 d9 d10
  refine HBo.out.mono ?_
  rintro e w1 ⟨s, rfl, hs, hb⟩
  have HG := Lib.hid ((hb.block _ (Array.getElem?_eq_some_iff.1 HG.out).1).trans HG.out)
  have HB := Lib.hid (HB.out.trans (hb.mono HB.out.size))
  clear hb HBo
  have HE := Lib.hid (show putL x = [] ∧ putE x = 6 from ⟨by unfold putL putOk; rw [bw, al]; rfl, by unfold putE putOk; rw [bw, al]; rfl⟩)
  clear hs
  have hk7 := bodyW_kinds bw
  have HTo := Lib.hid (fun wx => refTold_any wx x A c hk7)
  unfold Fr.cells at HTo
  clear hk7
  go_wp2_with fail
  have HG := Lib.hid (show (w1.drew).heap[w.heap.size]? = _ from HG.out)
  have HB := Lib.hid HB.out.drew
  obtain ⟨d0, d1, d2, d3, d4, d5, d6, d7, d8, d9, d10⟩ := keeps11 (M := []) (w := w1.drew) HG.out (by simp)
  refine wp_region_mix3 (KeepsBut []) (KeepsBut.refl []) (KeepsBut.trans []) [] [(0, 0), (0, 1), (0, 2), (1, 3), (1, 4), (2, 5), (2, 6), (0, 7), (0, 8)] (by kernel_rfl) (by kernel_rfl) (fun d _ _ _ _ h => by cases d <;> exact h) ?_
  generalize w1.drew = wd at HG HB d0 d1 d2 d3 d4 d5 d6 d7 d8 d9 d10 ⊢
  repeat (first
    | (refine mix3_free (v := ?_) rfl rfl ?_ (mix3_norm (a' := ?_) ?_ ?_)
       rotate_left
       focus (intro w'; go_simp; first | done | (with_reducible rfl))
       rotate_left
       focus (simp only [Act.put, List.getElem_toArray, List.getElem_cons_zero, List.getElem_cons_succ, List.setIfInBounds_toArray, List.set_cons_zero, List.set_cons_succ]; rfl))
    | (refine mix3_pure (v := ?_) rfl rfl ?_ (mix3_norm (a' := ?_) ?_ ?_)
       rotate_left
       focus (intro w' hR; go_simp; first | done | (with_reducible rfl))
       rotate_left
       focus (simp only [Act.put, List.getElem_toArray, List.getElem_cons_zero, List.getElem_cons_succ, List.setIfInBounds_toArray, List.set_cons_zero, List.set_cons_succ]; rfl))
    | (refine mix3_freeOff rfl rfl (mix3_norm (a' := ?_) ?_ ?_)
       rotate_left
       focus (simp only [Act.put, List.getElem_toArray, List.getElem_cons_zero, List.getElem_cons_succ, List.setIfInBounds_toArray, List.set_cons_zero, List.set_cons_succ]; rfl))
    | (refine mix3_off rfl rfl (mix3_norm (a' := ?_) ?_ ?_)
       rotate_left
       focus (simp only [Act.put, List.getElem_toArray, List.getElem_cons_zero, List.getElem_cons_succ, List.setIfInBounds_toArray, List.set_cons_zero, List.set_cons_succ]; rfl)))
  clear d0 d1 d2 d3 d4 d5 d6 d7 d8 d9 d10
  refine mix3_eff rfl ?_
  simp only [List.getElem_toArray, List.getElem_cons_zero, List.getElem_cons_succ]
  go_wp2_with fail
  refine (HTo.out wd).mono ?_
  rintro e w2 ⟨rfl, hb⟩
  have HG := Lib.hid ((hb.block _ (Array.getElem?_eq_some_iff.1 HG.out).1).trans HG.out)
  have HB := Lib.hid (HB.out.trans (hb.mono HB.out.size))
  go_wp2_with fail
  refine mixQ3_normal (KeepsBut.of_below hb) rfl ?_
  clear hb HTo
  refine mix3_eff rfl ?_
  simp only [List.getElem_toArray, List.getElem_cons_zero, List.getElem_cons_succ]
  go_wp2_with fail
  have HAl := Lib.hid (refAlike_any x (told x) A (tA x A) c (tC x c) w2 (Hr.out.below HB.out) (told_reads (Hr.out.below HB.out)) HLl.out)
  rw [al] at HAl
  unfold Fr.cells at HAl
  refine HAl.out.mono ?_
  rintro e w3 ⟨rfl, hb⟩
  have HG := Lib.hid ((hb.block _ (Array.getElem?_eq_some_iff.1 HG.out).1).trans HG.out)
  have HB := Lib.hid (HB.out.trans (hb.mono HB.out.size))
  go_wp2_with fail
  refine mixQ3_normal (KeepsBut.of_below hb) rfl ?_
  clear hb HAl
  repeat (first
    | (refine mix3_free (v := ?_) rfl rfl ?_ (mix3_norm (a' := ?_) ?_ ?_)
       rotate_left
       focus (intro w'; go_simp; first | done | (with_reducible rfl))
       rotate_left
       focus (simp only [Act.put, List.getElem_toArray, List.getElem_cons_zero, List.getElem_cons_succ, List.setIfInBounds_toArray, List.set_cons_zero, List.set_cons_succ]; rfl))
    | (refine mix3_pure (v := ?_) rfl rfl ?_ (mix3_norm (a' := ?_) ?_ ?_)
       rotate_left
       focus (intro w' hR; go_simp; first | done | (with_reducible rfl))
       rotate_left
       focus (simp only [Act.put, List.getElem_toArray, List.getElem_cons_zero, List.getElem_cons_succ, List.setIfInBounds_toArray, List.set_cons_zero, List.set_cons_succ]; rfl))
    | (refine mix3_freeOff rfl rfl (mix3_norm (a' := ?_) ?_ ?_)
       rotate_left
       focus (simp only [Act.put, List.getElem_toArray, List.getElem_cons_zero, List.getElem_cons_succ, List.setIfInBounds_toArray, List.set_cons_zero, List.set_cons_succ]; rfl))
    | (refine mix3_off rfl rfl (mix3_norm (a' := ?_) ?_ ?_)
       rotate_left
       focus (simp only [Act.put, List.getElem_toArray, List.getElem_cons_zero, List.getElem_cons_succ, List.setIfInBounds_toArray, List.set_cons_zero, List.set_cons_succ]; rfl)))
  refine mix3_done ?_
  go_wp2_with fail
  go_ret2
  exact ⟨⟨#[]⟩, by rw [HE.out.2]; rfl, by rw [HE.out.1]; rfl, HB.out⟩
set_option maxHeartbeats 4000000 in
set_option maxRecDepth 100000 in
theorem refFrPutC (w : World) (x : Fr) (A : Option Addr) (c : Nat) (hr : Reads w 1 A x.l.length (sts x.l)) (hok : FrOk x) (hB : (bodyL x).length ≤ 100000000) (hl : x.l.length ≤ 2000000) (bw : bodyW x = false) (al : alikeB x (told x) = true) :
    Calls Try.prog 21 #[.agg (x.cells A c)] w fun e w' => ∃ s, e = .returned (.tuple #[.string s, .int .i64 (putE x : Nat)]) ∧ bl s = putL x ∧ Below w.heap.size w w' := by
  obtain ⟨hb, hg, _⟩ := alloc1 w (x.cells A c) 41
  have HBo := Lib.hid (refBody_any (w.alloc (.cells (x.cells A c) 41)) x A c (hr.below hb) hok hB hl)
  have Hr := Lib.hid hr
  have HLl := Lib.hid hl
  have HBd := Lib.hid hB
  have Hok := Lib.hid hok
  rw [bw] at HBo
  unfold Fr.cells at hg hb HBo ⊢
  obtain ⟨d0, d1, d2, d3, d4, d5, d6, d7, d8, d9, d10⟩ := cells11 hg
  have HG := Lib.hid hg
  have HB := Lib.hid hb
  clear hr hok hl hB hg hb
  go_enter Try.func21, Try.ntmps21
  go_wp2_with fail
  clear d0 d1 d2 d3 d4 d5 d6 d7 d8 d9 d10
  refine HBo.out.mono ?_
  rintro e w1 ⟨s, rfl, hs, hb⟩
  have HG := Lib.hid ((hb.block _ (Array.getElem?_eq_some_iff.1 HG.out).1).trans HG.out)
  have HB := Lib.hid (HB.out.trans (hb.mono HB.out.size))
  clear hb HBo
  have HE := Lib.hid (show putL x = headL x ++ bodyL x ++ be 4 (crcAdd 0 (headL x ++ bodyL x)) ∧ putE x = 0 from ⟨by unfold putL putOk; rw [bw, al]; rfl, by unfold putE putOk; rw [bw, al]; rfl⟩)
  have hk7 := bodyW_kinds bw
  have HTo := Lib.hid (fun wx => refTold_any wx x A c hk7)
  unfold Fr.cells at HTo
  clear hk7
  have hs := hs (by trivial)
  have hz : s.size ≤ 100000000 := by have h := HBd.out; rw [← hs, bl_length] at h; exact h
  have HS := Lib.hid hs
  have HZ := Lib.hid hz
  have wk := u64n_wrap x.k
  have wz := u64n_wrap ((s.size : Nat) : Int)
  have wq := wrap64_nat Hok.out.q64
  have z1 := t1s (u64n x.k)
  have z2 := t8s x.s
  have z3 := t8s x.e
  have z4 := t4s x.q
  have z5 := t2s (u64n (s.size : Nat))
  have a1 := addOk (txt 1 (u64n x.k)) (txt 8 x.s) (by (try simp only [ByteArray.size_append]); omega)
  have a2 := addOk (txt 1 (u64n x.k) ++ txt 8 x.s) (txt 8 x.e) (by (try simp only [ByteArray.size_append]); omega)
  have a3 := addOk (txt 1 (u64n x.k) ++ txt 8 x.s ++ txt 8 x.e) (txt 4 x.q) (by (try simp only [ByteArray.size_append]); omega)
  have a4 := addOk (txt 1 (u64n x.k) ++ txt 8 x.s ++ txt 8 x.e ++ txt 4 x.q) (txt 2 (u64n (s.size : Nat))) (by (try simp only [ByteArray.size_append]); omega)
  have a5 := addOk (txt 1 (u64n x.k) ++ txt 8 x.s ++ txt 8 x.e ++ txt 4 x.q ++ txt 2 (u64n (s.size : Nat))) (s) (by (try simp only [ByteArray.size_append]); omega)
  clear hs hz z1 z2 z3 z4 z5
  go_wp2_with fail
  have HG := Lib.hid (show (w1.drew).heap[w.heap.size]? = _ from HG.out)
  have HB := Lib.hid HB.out.drew
  obtain ⟨d0, d1, d2, d3, d4, d5, d6, d7, d8, d9, d10⟩ := keeps11 (M := []) (w := w1.drew) HG.out (by simp)
  refine wp_region_mix3 (KeepsBut []) (KeepsBut.refl []) (KeepsBut.trans []) [] [(0, 0), (0, 1), (0, 2), (1, 3), (1, 4), (2, 5), (2, 6), (0, 7), (0, 8)] (by kernel_rfl) (by kernel_rfl) (fun d _ _ _ _ h => by cases d <;> exact h) ?_
  generalize w1.drew = wd at HG HB d0 d1 d2 d3 d4 d5 d6 d7 d8 d9 d10 ⊢
  repeat (first
    | (refine mix3_free (v := ?_) rfl rfl ?_ (mix3_norm (a' := ?_) ?_ ?_)
       rotate_left
       focus (intro w'; go_simp; first | done | (with_reducible rfl))
       rotate_left
       focus (simp only [Act.put, List.getElem_toArray, List.getElem_cons_zero, List.getElem_cons_succ, List.setIfInBounds_toArray, List.set_cons_zero, List.set_cons_succ]; rfl))
    | (refine mix3_pure (v := ?_) rfl rfl ?_ (mix3_norm (a' := ?_) ?_ ?_)
       rotate_left
       focus (intro w' hR; go_simp; first | done | (with_reducible rfl))
       rotate_left
       focus (simp only [Act.put, List.getElem_toArray, List.getElem_cons_zero, List.getElem_cons_succ, List.setIfInBounds_toArray, List.set_cons_zero, List.set_cons_succ]; rfl))
    | (refine mix3_freeOff rfl rfl (mix3_norm (a' := ?_) ?_ ?_)
       rotate_left
       focus (simp only [Act.put, List.getElem_toArray, List.getElem_cons_zero, List.getElem_cons_succ, List.setIfInBounds_toArray, List.set_cons_zero, List.set_cons_succ]; rfl))
    | (refine mix3_off rfl rfl (mix3_norm (a' := ?_) ?_ ?_)
       rotate_left
       focus (simp only [Act.put, List.getElem_toArray, List.getElem_cons_zero, List.getElem_cons_succ, List.setIfInBounds_toArray, List.set_cons_zero, List.set_cons_succ]; rfl)))
  clear d0 d1 d2 d3 d4 d5 d6 d7 d8 d9 d10
  refine mix3_eff rfl ?_
  simp only [List.getElem_toArray, List.getElem_cons_zero, List.getElem_cons_succ]
  go_wp2_with fail
  refine (HTo.out wd).mono ?_
  rintro e w2 ⟨rfl, hb⟩
  have HG := Lib.hid ((hb.block _ (Array.getElem?_eq_some_iff.1 HG.out).1).trans HG.out)
  have HB := Lib.hid (HB.out.trans (hb.mono HB.out.size))
  go_wp2_with fail
  refine mixQ3_normal (KeepsBut.of_below hb) rfl ?_
  clear hb HTo
  refine mix3_eff rfl ?_
  simp only [List.getElem_toArray, List.getElem_cons_zero, List.getElem_cons_succ]
  go_wp2_with fail
  have HAl := Lib.hid (refAlike_any x (told x) A (tA x A) c (tC x c) w2 (Hr.out.below HB.out) (told_reads (Hr.out.below HB.out)) HLl.out)
  rw [al] at HAl
  unfold Fr.cells at HAl
  refine HAl.out.mono ?_
  rintro e w3 ⟨rfl, hb⟩
  have HG := Lib.hid ((hb.block _ (Array.getElem?_eq_some_iff.1 HG.out).1).trans HG.out)
  have HB := Lib.hid (HB.out.trans (hb.mono HB.out.size))
  go_wp2_with fail
  refine mixQ3_normal (KeepsBut.of_below hb) rfl ?_
  clear hb HAl
  repeat (first
    | (refine mix3_free (v := ?_) rfl rfl ?_ (mix3_norm (a' := ?_) ?_ ?_)
       rotate_left
       focus (intro w'; go_simp; first | done | (with_reducible rfl))
       rotate_left
       focus (simp only [Act.put, List.getElem_toArray, List.getElem_cons_zero, List.getElem_cons_succ, List.setIfInBounds_toArray, List.set_cons_zero, List.set_cons_succ]; rfl))
    | (refine mix3_pure (v := ?_) rfl rfl ?_ (mix3_norm (a' := ?_) ?_ ?_)
       rotate_left
       focus (intro w' hR; go_simp; first | done | (with_reducible rfl))
       rotate_left
       focus (simp only [Act.put, List.getElem_toArray, List.getElem_cons_zero, List.getElem_cons_succ, List.setIfInBounds_toArray, List.set_cons_zero, List.set_cons_succ]; rfl))
    | (refine mix3_freeOff rfl rfl (mix3_norm (a' := ?_) ?_ ?_)
       rotate_left
       focus (simp only [Act.put, List.getElem_toArray, List.getElem_cons_zero, List.getElem_cons_succ, List.setIfInBounds_toArray, List.set_cons_zero, List.set_cons_succ]; rfl))
    | (refine mix3_off rfl rfl (mix3_norm (a' := ?_) ?_ ?_)
       rotate_left
       focus (simp only [Act.put, List.getElem_toArray, List.getElem_cons_zero, List.getElem_cons_succ, List.setIfInBounds_toArray, List.set_cons_zero, List.set_cons_succ]; rfl)))
  refine mix3_done ?_
  go_wp2_with fail
  have HG := Lib.hid (show (w3.drew).heap[w.heap.size]? = _ from HG.out)
  have HB := Lib.hid HB.out.drew
  obtain ⟨d0, d1, d2, d3, d4, d5, d6, d7, d8, d9, d10⟩ := keeps11 (M := []) (w := w3.drew) HG.out (by simp)
  refine wp_region_mix3 (KeepsBut []) (KeepsBut.refl []) (KeepsBut.trans []) [] [(0, 0), (0, 4), (0, 8), (0, 12), (0, 17), (0, 18), (0, 22), (1, 1), (1, 2), (1, 5), (1, 9), (1, 13), (1, 14), (1, 19), (2, 3), (2, 6), (0, 7), (2, 10), (0, 11), (2, 15), (0, 16), (2, 20), (0, 21), (0, 23), (0, 24)] (by kernel_rfl) (by kernel_rfl) (fun d _ _ _ _ h => by cases d <;> exact h) ?_
  generalize w3.drew = wd at HG HB d0 d1 d2 d3 d4 d5 d6 d7 d8 d9 d10 ⊢
  repeat (first
    | (refine mix3_free (v := ?_) rfl rfl ?_ (mix3_norm (a' := ?_) ?_ ?_)
       rotate_left
       focus (intro w'; go_simp; first | done | (with_reducible rfl))
       rotate_left
       focus (simp only [Act.put, List.getElem_toArray, List.getElem_cons_zero, List.getElem_cons_succ, List.setIfInBounds_toArray, List.set_cons_zero, List.set_cons_succ]; rfl))
    | (refine mix3_pure (v := ?_) rfl rfl ?_ (mix3_norm (a' := ?_) ?_ ?_)
       rotate_left
       focus (intro w' hR; go_simp; first | done | (with_reducible rfl))
       rotate_left
       focus (simp only [Act.put, List.getElem_toArray, List.getElem_cons_zero, List.getElem_cons_succ, List.setIfInBounds_toArray, List.set_cons_zero, List.set_cons_succ]; rfl))
    | (refine mix3_freeOff rfl rfl (mix3_norm (a' := ?_) ?_ ?_)
       rotate_left
       focus (simp only [Act.put, List.getElem_toArray, List.getElem_cons_zero, List.getElem_cons_succ, List.setIfInBounds_toArray, List.set_cons_zero, List.set_cons_succ]; rfl))
    | (refine mix3_off rfl rfl (mix3_norm (a' := ?_) ?_ ?_)
       rotate_left
       focus (simp only [Act.put, List.getElem_toArray, List.getElem_cons_zero, List.getElem_cons_succ, List.setIfInBounds_toArray, List.set_cons_zero, List.set_cons_succ]; rfl)))
  clear d0 d1 d2 d3 d4 d5 d6 d7 d8 d9 d10
  refine mix3_eff rfl ?_
  simp only [List.getElem_toArray, List.getElem_cons_zero, List.getElem_cons_succ]
  go_wp2_with fail
  refine (text_any 1 (u64n x.k) (u64n_lt _) _).mono ?_
  rintro e w4 ⟨rfl, hb⟩
  have HB := Lib.hid (HB.out.trans (hb.mono HB.out.size))
  go_wp2_with fail
  refine mixQ3_normal (KeepsBut.of_below hb) rfl ?_
  clear hb
  repeat (first
    | (refine mix3_free (v := ?_) rfl rfl ?_ (mix3_norm (a' := ?_) ?_ ?_)
       rotate_left
       focus (intro w'; go_simp; first | done | (with_reducible rfl))
       rotate_left
       focus (simp only [Act.put, List.getElem_toArray, List.getElem_cons_zero, List.getElem_cons_succ, List.setIfInBounds_toArray, List.set_cons_zero, List.set_cons_succ]; rfl))
    | (refine mix3_pure (v := ?_) rfl rfl ?_ (mix3_norm (a' := ?_) ?_ ?_)
       rotate_left
       focus (intro w' hR; go_simp; first | done | (with_reducible rfl))
       rotate_left
       focus (simp only [Act.put, List.getElem_toArray, List.getElem_cons_zero, List.getElem_cons_succ, List.setIfInBounds_toArray, List.set_cons_zero, List.set_cons_succ]; rfl))
    | (refine mix3_freeOff rfl rfl (mix3_norm (a' := ?_) ?_ ?_)
       rotate_left
       focus (simp only [Act.put, List.getElem_toArray, List.getElem_cons_zero, List.getElem_cons_succ, List.setIfInBounds_toArray, List.set_cons_zero, List.set_cons_succ]; rfl))
    | (refine mix3_off rfl rfl (mix3_norm (a' := ?_) ?_ ?_)
       rotate_left
       focus (simp only [Act.put, List.getElem_toArray, List.getElem_cons_zero, List.getElem_cons_succ, List.setIfInBounds_toArray, List.set_cons_zero, List.set_cons_succ]; rfl)))
  refine mix3_eff rfl ?_
  simp only [List.getElem_toArray, List.getElem_cons_zero, List.getElem_cons_succ]
  go_wp2_with fail
  refine (text_any 8 (x.s) (Hok.out.1) _).mono ?_
  rintro e w5 ⟨rfl, hb⟩
  have HB := Lib.hid (HB.out.trans (hb.mono HB.out.size))
  go_wp2_with fail
  refine mixQ3_normal (KeepsBut.of_below hb) rfl ?_
  clear hb
  repeat (first
    | (refine mix3_free (v := ?_) rfl rfl ?_ (mix3_norm (a' := ?_) ?_ ?_)
       rotate_left
       focus (intro w'; go_simp; first | done | (with_reducible rfl))
       rotate_left
       focus (simp only [Act.put, List.getElem_toArray, List.getElem_cons_zero, List.getElem_cons_succ, List.setIfInBounds_toArray, List.set_cons_zero, List.set_cons_succ]; rfl))
    | (refine mix3_pure (v := ?_) rfl rfl ?_ (mix3_norm (a' := ?_) ?_ ?_)
       rotate_left
       focus (intro w' hR; go_simp; first | done | (with_reducible rfl))
       rotate_left
       focus (simp only [Act.put, List.getElem_toArray, List.getElem_cons_zero, List.getElem_cons_succ, List.setIfInBounds_toArray, List.set_cons_zero, List.set_cons_succ]; rfl))
    | (refine mix3_freeOff rfl rfl (mix3_norm (a' := ?_) ?_ ?_)
       rotate_left
       focus (simp only [Act.put, List.getElem_toArray, List.getElem_cons_zero, List.getElem_cons_succ, List.setIfInBounds_toArray, List.set_cons_zero, List.set_cons_succ]; rfl))
    | (refine mix3_off rfl rfl (mix3_norm (a' := ?_) ?_ ?_)
       rotate_left
       focus (simp only [Act.put, List.getElem_toArray, List.getElem_cons_zero, List.getElem_cons_succ, List.setIfInBounds_toArray, List.set_cons_zero, List.set_cons_succ]; rfl)))
  refine mix3_eff rfl ?_
  simp only [List.getElem_toArray, List.getElem_cons_zero, List.getElem_cons_succ]
  go_wp2_with fail
  refine (text_any 8 (x.e) (Hok.out.2.1) _).mono ?_
  rintro e w6 ⟨rfl, hb⟩
  have HB := Lib.hid (HB.out.trans (hb.mono HB.out.size))
  go_wp2_with fail
  refine mixQ3_normal (KeepsBut.of_below hb) rfl ?_
  clear hb
  repeat (first
    | (refine mix3_free (v := ?_) rfl rfl ?_ (mix3_norm (a' := ?_) ?_ ?_)
       rotate_left
       focus (intro w'; go_simp; first | done | (with_reducible rfl))
       rotate_left
       focus (simp only [Act.put, List.getElem_toArray, List.getElem_cons_zero, List.getElem_cons_succ, List.setIfInBounds_toArray, List.set_cons_zero, List.set_cons_succ]; rfl))
    | (refine mix3_pure (v := ?_) rfl rfl ?_ (mix3_norm (a' := ?_) ?_ ?_)
       rotate_left
       focus (intro w' hR; go_simp; first | done | (with_reducible rfl))
       rotate_left
       focus (simp only [Act.put, List.getElem_toArray, List.getElem_cons_zero, List.getElem_cons_succ, List.setIfInBounds_toArray, List.set_cons_zero, List.set_cons_succ]; rfl))
    | (refine mix3_freeOff rfl rfl (mix3_norm (a' := ?_) ?_ ?_)
       rotate_left
       focus (simp only [Act.put, List.getElem_toArray, List.getElem_cons_zero, List.getElem_cons_succ, List.setIfInBounds_toArray, List.set_cons_zero, List.set_cons_succ]; rfl))
    | (refine mix3_off rfl rfl (mix3_norm (a' := ?_) ?_ ?_)
       rotate_left
       focus (simp only [Act.put, List.getElem_toArray, List.getElem_cons_zero, List.getElem_cons_succ, List.setIfInBounds_toArray, List.set_cons_zero, List.set_cons_succ]; rfl)))
  refine mix3_eff rfl ?_
  simp only [List.getElem_toArray, List.getElem_cons_zero, List.getElem_cons_succ]
  go_wp2_with fail
  refine (text_any 4 (x.q) (Hok.out.q64) _).mono ?_
  rintro e w7 ⟨rfl, hb⟩
  have HB := Lib.hid (HB.out.trans (hb.mono HB.out.size))
  go_wp2_with fail
  refine mixQ3_normal (KeepsBut.of_below hb) rfl ?_
  clear hb
  repeat (first
    | (refine mix3_free (v := ?_) rfl rfl ?_ (mix3_norm (a' := ?_) ?_ ?_)
       rotate_left
       focus (intro w'; go_simp; first | done | (with_reducible rfl))
       rotate_left
       focus (simp only [Act.put, List.getElem_toArray, List.getElem_cons_zero, List.getElem_cons_succ, List.setIfInBounds_toArray, List.set_cons_zero, List.set_cons_succ]; rfl))
    | (refine mix3_pure (v := ?_) rfl rfl ?_ (mix3_norm (a' := ?_) ?_ ?_)
       rotate_left
       focus (intro w' hR; go_simp; first | done | (with_reducible rfl))
       rotate_left
       focus (simp only [Act.put, List.getElem_toArray, List.getElem_cons_zero, List.getElem_cons_succ, List.setIfInBounds_toArray, List.set_cons_zero, List.set_cons_succ]; rfl))
    | (refine mix3_freeOff rfl rfl (mix3_norm (a' := ?_) ?_ ?_)
       rotate_left
       focus (simp only [Act.put, List.getElem_toArray, List.getElem_cons_zero, List.getElem_cons_succ, List.setIfInBounds_toArray, List.set_cons_zero, List.set_cons_succ]; rfl))
    | (refine mix3_off rfl rfl (mix3_norm (a' := ?_) ?_ ?_)
       rotate_left
       focus (simp only [Act.put, List.getElem_toArray, List.getElem_cons_zero, List.getElem_cons_succ, List.setIfInBounds_toArray, List.set_cons_zero, List.set_cons_succ]; rfl)))
  refine mix3_eff rfl ?_
  simp only [List.getElem_toArray, List.getElem_cons_zero, List.getElem_cons_succ]
  go_wp2_with fail
  refine (text_any 2 (u64n (s.size : Nat)) (u64n_lt _) _).mono ?_
  rintro e w8 ⟨rfl, hb⟩
  have HB := Lib.hid (HB.out.trans (hb.mono HB.out.size))
  go_wp2_with fail
  refine mixQ3_normal (KeepsBut.of_below hb) rfl ?_
  clear hb
  repeat (first
    | (refine mix3_free (v := ?_) rfl rfl ?_ (mix3_norm (a' := ?_) ?_ ?_)
       rotate_left
       focus (intro w'; go_simp; first | done | (with_reducible rfl))
       rotate_left
       focus (simp only [Act.put, List.getElem_toArray, List.getElem_cons_zero, List.getElem_cons_succ, List.setIfInBounds_toArray, List.set_cons_zero, List.set_cons_succ]; rfl))
    | (refine mix3_pure (v := ?_) rfl rfl ?_ (mix3_norm (a' := ?_) ?_ ?_)
       rotate_left
       focus (intro w' hR; go_simp; first | done | (with_reducible rfl))
       rotate_left
       focus (simp only [Act.put, List.getElem_toArray, List.getElem_cons_zero, List.getElem_cons_succ, List.setIfInBounds_toArray, List.set_cons_zero, List.set_cons_succ]; rfl))
    | (refine mix3_freeOff rfl rfl (mix3_norm (a' := ?_) ?_ ?_)
       rotate_left
       focus (simp only [Act.put, List.getElem_toArray, List.getElem_cons_zero, List.getElem_cons_succ, List.setIfInBounds_toArray, List.set_cons_zero, List.set_cons_succ]; rfl))
    | (refine mix3_off rfl rfl (mix3_norm (a' := ?_) ?_ ?_)
       rotate_left
       focus (simp only [Act.put, List.getElem_toArray, List.getElem_cons_zero, List.getElem_cons_succ, List.setIfInBounds_toArray, List.set_cons_zero, List.set_cons_succ]; rfl)))
  refine mix3_done ?_
  clear a1 a2 a3 a4 a5 wk wz wq
  have HX := Lib.hid (show bl (txt 1 (u64n x.k) ++ txt 8 x.s ++ txt 8 x.e ++ txt 4 x.q ++ txt 2 (u64n (s.size : Nat)) ++ s) = headL x ++ bodyL x by
    simp only [bl_append, t1b, t8b, t4b, t2b]
    unfold headL
    rw [← HS.out, bl_length])
  obtain ⟨T, hT⟩ : ∃ T, txt 1 (u64n x.k) ++ txt 8 x.s ++ txt 8 x.e ++ txt 4 x.q ++ txt 2 (u64n (s.size : Nat)) ++ s = T := ⟨_, rfl⟩
  have HTs := Lib.hid (show T.size ≤ 100000023 by
    have h := congrArg List.length HX.out
    rw [bl_length, hT] at h
    have h2 := HBd.out
    unfold headL at h
    simp only [List.length_append, be_length] at h
    omega)
  rw [hT] at HX ⊢
  clear hT
  go_wp2_with (refine wpList_bytes_of rfl (.tmp 46) rfl T rfl ?_)
  intro A1 c1 w9 hr1 hc1 hb
  have HB := Lib.hid (HB.out.trans (hb.mono HB.out.size))
  have HQ := Lib.hid (refSum_any A1 (bl T) c1 w9 hr1 (by rw [bl_length]; have := HTs.out; unfold maxLen; omega))
  have hcl := crcAdd_lt 0 (bl T)
  have wc := wrap64_nat (show crcAdd 0 (bl T) < 18446744073709551616 by omega)
  have HCl := Lib.hid hcl
  clear hr1 hc1 hb hcl
  go_wp2_with fail
  refine HQ.out.mono ?_
  rintro e w' ⟨rfl, rfl⟩
  have ha := addOk T (txt 4 (crcAdd 0 (bl T))) (by have := HTs.out; have := t4s (crcAdd 0 (bl T)); omega)
  go_wp2_with fail
  refine (text_any 4 (crcAdd 0 (bl T)) (by have := HCl.out; omega) _).mono ?_
  rintro e w10 ⟨rfl, hb⟩
  have HB := Lib.hid (HB.out.trans (hb.mono HB.out.size))
  clear hb HQ
  go_wp2_with fail
  go_ret2
  exact ⟨T ++ txt 4 (crcAdd 0 (bl T)), by rw [HE.out.2]; rfl, by rw [HE.out.1, bl_append, t4b, HX.out], HB.out⟩
theorem refFrPut_any (w : World) (x : Fr) (A : Option Addr) (c : Nat) (hr : Reads w 1 A x.l.length (sts x.l)) (hok : FrOk x) (hB : (bodyL x).length ≤ 100000000) (hl : x.l.length ≤ 2000000) :
    Calls Try.prog 21 #[.agg (x.cells A c)] w fun e w' => ∃ s, e = .returned (.tuple #[.string s, .int .i64 (putE x : Nat)]) ∧ bl s = putL x ∧ Below w.heap.size w w' := by
  cases bw : bodyW x with
  | true => exact refFrPutA w x A c hr hok hB hl bw
  | false =>
    cases al : alikeB x (told x) with
    | false => exact refFrPutB w x A c hr hok hB hl bw al
    | true => exact refFrPutC w x A c hr hok hB hl bw al
end Go.Proofs.Ytcahflddafdhfaa
