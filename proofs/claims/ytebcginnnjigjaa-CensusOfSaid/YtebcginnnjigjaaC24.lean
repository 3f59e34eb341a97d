/- The reference's frames: numbers, a frame's body. -/
import Derived.Test.YtebcginnnjigjaaC23
import Derived.Test.YtebcginnnjigjaaC8
import Derived.Laws.Concat
open Go.RowKit
namespace Go.Proofs.Ytebcginnnjigjaa

theorem addOk (a b : ByteArray) (h : a.size + b.size ≤ 9223372036854775807) : ∀ W : World, (Op.stringOp .add a b).run Try.prog W = .ok (.string (a ++ b)) W := fun W => run_string_add_sum W a b h
theorem t1s (n : Nat) : (txt 1 n).size = 1 := txt_size 1 n (by decide) (by decide)
theorem t2s (n : Nat) : (txt 2 n).size = 2 := txt_size 2 n (by decide) (by decide)
theorem t4s (n : Nat) : (txt 4 n).size = 4 := txt_size 4 n (by decide) (by decide)
theorem t8s (n : Nat) : (txt 8 n).size = 8 := txt_size 8 n (by decide) (by decide)
theorem t1b (n : Nat) : bl (txt 1 n) = be 1 n := bl_txt 1 n (by decide) (by decide)
theorem t2b (n : Nat) : bl (txt 2 n) = be 2 n := bl_txt 2 n (by decide) (by decide)
theorem t4b (n : Nat) : bl (txt 4 n) = be 4 n := bl_txt 4 n (by decide) (by decide)
theorem t8b (n : Nat) : bl (txt 8 n) = be 8 n := bl_txt 8 n (by decide) (by decide)
theorem refDigRight_any (s : ByteArray) (w : World) : Calls Try.prog 80 #[.string s] w fun e w' => e = .returned (.bool (rightD s)) ∧ w = w' := by
  have H : ((s.size : Int) == 32) = rightD s := by
    unfold rightD
    rw [Bool.eq_iff_iff, beq_iff_eq, decide_eq_true_iff]
    omega
  go_enter Try.func80, Try.ntmps80
  go_wp2_with fail
  go_ret
  exact ⟨rfl, rfl⟩
theorem flat_snoc (l : List ByteArray) {k : Nat} (h : k < l.length) : (l.take (k + 1)).flatMap bl = (l.take k).flatMap bl ++ bl l[k] := by
  rw [List.take_succ_eq_append_getElem h, List.flatMap_append]
  show _ ++ (bl l[k] ++ []) = _
  rw [List.append_nil]
theorem f4_bad {x : Fr} {k : Nat} (hW : bodyW x = (numBad 2 x.i || numBad 1 x.l.length || decide (4 < x.l.length) || x.l.any (fun s => !rightD s))) (hQ : (!numBad 2 x.i && decide (x.l.length ≤ 4) && (x.l.take k).all rightD) = false) : bodyW x = true := by
  rw [hW]
  rcases Bool.and_eq_false_iff.1 hQ with h | h
  · rcases Bool.and_eq_false_iff.1 h with h | h
    · simp only [Bool.not_eq_false'] at h; rw [h]; simp
    · have := of_decide_eq_false h
      rw [decide_eq_true (show 4 < x.l.length by omega)]; simp
  · have h1 : x.l.any (fun s => !rightD s) = true := by
      rw [List.all_eq_false] at h
      obtain ⟨s, hs, hr⟩ := h
      exact List.any_eq_true.2 ⟨s, List.mem_of_mem_take hs, by simpa using hr⟩
    rw [h1]; simp
theorem f4_ok {x : Fr} (hW : bodyW x = (numBad 2 x.i || numBad 1 x.l.length || decide (4 < x.l.length) || x.l.any (fun s => !rightD s))) (hQ : (!numBad 2 x.i && decide (x.l.length ≤ 4) && (x.l.take x.l.length).all rightD) = true) : bodyW x = false := by
  rw [hW]
  simp only [Bool.and_eq_true, Bool.not_eq_true', decide_eq_true_eq, List.take_length] at hQ
  obtain ⟨⟨h1, h2⟩, h3⟩ := hQ
  have h4 : numBad 1 x.l.length = false := by unfold numBad; rw [decide_eq_false (by omega), decide_eq_false (by show ¬ ((256 : Int) ≤ _); omega)]; rfl
  have h5 : x.l.any (fun s => !rightD s) = false := by
    rw [List.any_eq_false]
    intro s hs
    simpa using List.all_eq_true.1 h3 s hs
  rw [h1, h4, h5, decide_eq_false (by omega)]; rfl
set_option maxRecDepth 100000 in
theorem refNum1_any (n : Int) (w : World) : Calls Try.prog 79 #[.int .i64 n, .int .i64 1] w fun e w' => e = .returned (.bool (!numBad 1 n)) ∧ w = w' := by
  by_cases h0 : n < 0
  · have HB := Lib.hid (show numBad 1 n = true by unfold numBad; rw [decide_eq_true h0]; rfl)
    have h1 : decide (0 ≤ n) = false := decide_eq_false (by omega)
    clear h0
    go_enter Try.func79, Try.ntmps79
    go_wp2_with fail
    go_ret
    exact ⟨by rw [HB.out]; rfl, rfl⟩
  · by_cases h2 : n < 256
    · have HB := Lib.hid (show numBad 1 n = false by unfold numBad; rw [decide_eq_false h0, decide_eq_false (by show ¬ ((256 : Int) ≤ n); omega)]; rfl)
      have h1 : decide (0 ≤ n) = true := decide_eq_true (by omega)
      have h3 : decide (n < 256) = true := decide_eq_true h2
      clear h0 h2
      go_enter Try.func79, Try.ntmps79
      go_wp2_with fail
      go_ret
      exact ⟨by rw [HB.out]; rfl, rfl⟩
    · have HB := Lib.hid (show numBad 1 n = true by unfold numBad; rw [decide_eq_false h0, decide_eq_true (by show (256 : Int) ≤ n; omega)]; rfl)
      have h1 : decide (0 ≤ n) = true := decide_eq_true (by omega)
      have h3 : decide (n < 256) = false := decide_eq_false h2
      clear h0 h2
      go_enter Try.func79, Try.ntmps79
      go_wp2_with fail
      go_ret
      exact ⟨by rw [HB.out]; rfl, rfl⟩
set_option maxRecDepth 100000 in
theorem refNum2_any (n : Int) (w : World) : Calls Try.prog 79 #[.int .i64 n, .int .i64 2] w fun e w' => e = .returned (.bool (!numBad 2 n)) ∧ w = w' := by
  by_cases h0 : n < 0
  · have HB := Lib.hid (show numBad 2 n = true by unfold numBad; rw [decide_eq_true h0]; rfl)
    have h1 : decide (0 ≤ n) = false := decide_eq_false (by omega)
    clear h0
    go_enter Try.func79, Try.ntmps79
    go_wp2_with fail
    go_ret
    exact ⟨by rw [HB.out]; rfl, rfl⟩
  · by_cases h2 : n < 65536
    · have HB := Lib.hid (show numBad 2 n = false by unfold numBad; rw [decide_eq_false h0, decide_eq_false (by show ¬ ((65536 : Int) ≤ n); omega)]; rfl)
      have h1 : decide (0 ≤ n) = true := decide_eq_true (by omega)
      have h3 : decide (n < 65536) = true := decide_eq_true h2
      clear h0 h2
      go_enter Try.func79, Try.ntmps79
      go_wp2_with fail
      go_ret
      exact ⟨by rw [HB.out]; rfl, rfl⟩
    · have HB := Lib.hid (show numBad 2 n = true by unfold numBad; rw [decide_eq_false h0, decide_eq_true (by show (65536 : Int) ≤ n; omega)]; rfl)
      have h1 : decide (0 ≤ n) = true := decide_eq_true (by omega)
      have h3 : decide (n < 65536) = false := decide_eq_false h2
      clear h0 h2
      go_enter Try.func79, Try.ntmps79
      go_wp2_with fail
      go_ret
      exact ⟨by rw [HB.out]; rfl, rfl⟩
set_option maxHeartbeats 4000000 in
set_option maxRecDepth 100000 in
theorem refBody1a (w : World) (x : Fr) (A : Option Addr) (c : Nat) (hr : Reads w 1 A x.l.length (sts x.l)) (hok : FrOk x) (hB : (bodyL x).length ≤ 100000000) (hl : x.l.length ≤ 2000000) (k1 : (x.k == 1) = true) (bn : numBad 2 x.n = true) :
    Calls Try.prog 72 #[.agg (x.cells A c)] w fun e w' => ∃ s, e = .returned (.tuple #[.string s, .bool (!bodyW x)]) ∧ (bodyW x = false → bl s = bodyL x) ∧ Below w.heap.size w w' := by
  obtain ⟨hb, hg, _⟩ := alloc1 w (x.cells A c) 58
  have Hr := Lib.hid (hr.below hb)
  have Hr0 := Lib.hid hr
  have wv := wrap64_nat hok.v64
  have HVl := Lib.hid hok.v64
  have wn := u64n_wrap x.n
  have wf := u64n_wrap x.f
  have wi := u64n_wrap x.i
  have wc := u64n_wrap x.c
  have wl := u64n_wrap ((x.l.length : Nat) : Int)
  have HLl := Lib.hid hl
  have HBd := Lib.hid hB
  unfold Fr.cells at hg hb Hr ⊢
  obtain ⟨d0, d1, d2, d3, d4, d5, d6, d7, d8, d9, d10⟩ := cells11 hg
  have HG := Lib.hid hg
  have HB := Lib.hid hb
  clear hr hok hl hg hb hB
  have HL := Lib.hid (show bodyL x = be 4 x.v ++ be 2 (u64n x.n) ++ be 1 (u64n x.f) ++ bl x.d by unfold bodyL; rw [if_pos (by simpa using k1)])
  have HW := Lib.hid (show bodyW x = (numBad 2 x.n || numBad 1 x.f || !rightD x.d) by unfold bodyW; rw [if_pos (by simpa using k1)])
  have hsz : 7 + x.d.size ≤ 100000000 := by have h := HBd.out; rw [HL.out] at h; simp only [List.length_append, be_length, bl_length] at h; omega
  have z4 := t4s x.v
  have z2 := t2s (u64n x.n)
  have z1 := t1s (u64n x.f)
  have a1 := addOk (txt 4 x.v) (txt 2 (u64n x.n)) (by omega)
  have a2 := addOk (txt 4 x.v ++ txt 2 (u64n x.n)) (txt 1 (u64n x.f)) (by rw [ByteArray.size_append]; omega)
  have a3 := addOk (txt 4 x.v ++ txt 2 (u64n x.n) ++ txt 1 (u64n x.f)) x.d (by rw [ByteArray.size_append, ByteArray.size_append]; omega)
  clear hsz z4 z2 z1
  go_enter Try.func72, Try.ntmps72
  go_wp2_with fail
  clear d0 d1 d2 d3 d4 d5 d6 d7 d8 d9 d10
  generalize (w.alloc (.cells #[.int .i64 x.k, .int .u64 (x.s : Int), .int .u64 (x.e : Int), .int .u32 (x.q : Int), .int .u32 (x.v : Int), .int .i64 x.n, .int .i64 x.f, .int .i64 x.i, .int .i64 x.c, .string x.d, .slice A x.l.length c] 58)) = w1 at HG HB Hr ⊢
  refine wp_region_mix3 (KeepsBut []) (KeepsBut.refl []) (KeepsBut.trans []) [] [(0, 0), (0, 4), (0, 9), (0, 14), (0, 17), (1, 1), (1, 2), (1, 5), (1, 6), (1, 10), (1, 11), (1, 15), (1, 18), (2, 3), (2, 7), (0, 8), (2, 12), (0, 13), (0, 16), (2, 19), (0, 20), (0, 21), (1, 22), (2, 23), (0, 24), (0, 25), (0, 26), (1, 27), (2, 28), (0, 29), (0, 30), (0, 31)] (by kernel_rfl) (by kernel_rfl) (fun d _ _ _ _ h => by cases d <;> exact h) ?_
  have HG := Lib.hid (show (w1.drew).heap[w.heap.size]? = _ from HG.out)
  have HB := Lib.hid HB.out.drew
  obtain ⟨d0, d1, d2, d3, d4, d5, d6, d7, d8, d9, d10⟩ := keeps11 (M := []) (w := w1.drew) HG.out (by simp)
  generalize w1.drew = wd at HG HB d0 d1 d2 d3 d4 d5 d6 d7 d8 d9 d10 ⊢
  repeat ((first | (refine mix3_free (v := ?_) rfl rfl ?_ (mix3_norm (a' := ?_) ?_ ?_); rotate_left; focus (intro w'; go_simp; first | done | (with_reducible rfl))) | (refine mix3_pure (v := ?_) rfl rfl ?_ (mix3_norm (a' := ?_) ?_ ?_); rotate_left; focus (intro w' hR; go_simp; first | done | (with_reducible rfl))) | refine mix3_freeOff rfl rfl (mix3_norm (a' := ?_) ?_ ?_) | refine mix3_off rfl rfl (mix3_norm (a' := ?_) ?_ ?_)); rotate_left; focus (simp only [Act.put, List.getElem_toArray, List.getElem_cons_zero, List.getElem_cons_succ, List.setIfInBounds_toArray, List.set_cons_zero, List.set_cons_succ]; rfl))
  clear d0 d1 d2 d3 d4 d5 d6 d7 d8 d9 d10
  refine mix3_eff rfl ?_
  simp only [List.getElem_toArray, List.getElem_cons_zero, List.getElem_cons_succ]
  go_wp2_with fail
  refine (text_any 4 (x.v) (HVl.out) _).mono ?_
  rintro e w2 ⟨rfl, hb⟩
  have HG := Lib.hid ((hb.block _ (Array.getElem?_eq_some_iff.1 HG.out).1).trans HG.out)
  have HB := Lib.hid (HB.out.trans (hb.mono HB.out.size))
  go_wp2_with fail
  refine mixQ3_normal (KeepsBut.of_below hb) rfl ?_
  clear hb
  refine mix3_eff rfl ?_
  simp only [List.getElem_toArray, List.getElem_cons_zero, List.getElem_cons_succ]
  go_wp2_with fail
  refine (text_any 2 (u64n x.n) (u64n_lt _) _).mono ?_
  rintro e w3 ⟨rfl, hb⟩
  have HG := Lib.hid ((hb.block _ (Array.getElem?_eq_some_iff.1 HG.out).1).trans HG.out)
  have HB := Lib.hid (HB.out.trans (hb.mono HB.out.size))
  go_wp2_with fail
  refine mixQ3_normal (KeepsBut.of_below hb) rfl ?_
  clear hb
  repeat ((first | (refine mix3_free (v := ?_) rfl rfl ?_ (mix3_norm (a' := ?_) ?_ ?_); rotate_left; focus (intro w'; go_simp; first | done | (with_reducible rfl))) | (refine mix3_pure (v := ?_) rfl rfl ?_ (mix3_norm (a' := ?_) ?_ ?_); rotate_left; focus (intro w' hR; go_simp; first | done | (with_reducible rfl))) | refine mix3_freeOff rfl rfl (mix3_norm (a' := ?_) ?_ ?_) | refine mix3_off rfl rfl (mix3_norm (a' := ?_) ?_ ?_)); rotate_left; focus (simp only [Act.put, List.getElem_toArray, List.getElem_cons_zero, List.getElem_cons_succ, List.setIfInBounds_toArray, List.set_cons_zero, List.set_cons_succ]; rfl))
  refine mix3_eff rfl ?_
  simp only [List.getElem_toArray, List.getElem_cons_zero, List.getElem_cons_succ]
  go_wp2_with fail
  refine (text_any 1 (u64n x.f) (u64n_lt _) _).mono ?_
  rintro e w4 ⟨rfl, hb⟩
  have HG := Lib.hid ((hb.block _ (Array.getElem?_eq_some_iff.1 HG.out).1).trans HG.out)
  have HB := Lib.hid (HB.out.trans (hb.mono HB.out.size))
  go_wp2_with fail
  refine mixQ3_normal (KeepsBut.of_below hb) rfl ?_
  clear hb
  repeat ((first | (refine mix3_free (v := ?_) rfl rfl ?_ (mix3_norm (a' := ?_) ?_ ?_); rotate_left; focus (intro w'; go_simp; first | done | (with_reducible rfl))) | (refine mix3_pure (v := ?_) rfl rfl ?_ (mix3_norm (a' := ?_) ?_ ?_); rotate_left; focus (intro w' hR; go_simp; first | done | (with_reducible rfl))) | refine mix3_freeOff rfl rfl (mix3_norm (a' := ?_) ?_ ?_) | refine mix3_off rfl rfl (mix3_norm (a' := ?_) ?_ ?_)); rotate_left; focus (simp only [Act.put, List.getElem_toArray, List.getElem_cons_zero, List.getElem_cons_succ, List.setIfInBounds_toArray, List.set_cons_zero, List.set_cons_succ]; rfl))
  refine mix3_eff rfl ?_
  simp only [List.getElem_toArray, List.getElem_cons_zero, List.getElem_cons_succ]
  go_wp2_with fail
  refine (refNum2_any x.n _).mono ?_
  rw [bn]
  rintro e w' ⟨rfl, rfl⟩
  go_wp2_with fail
  refine mixQ3_normal (KeepsBut.refl [] _) rfl ?_
  repeat ((first | (refine mix3_free (v := ?_) rfl rfl ?_ (mix3_norm (a' := ?_) ?_ ?_); rotate_left; focus (intro w'; go_simp; first | done | (with_reducible rfl))) | (refine mix3_pure (v := ?_) rfl rfl ?_ (mix3_norm (a' := ?_) ?_ ?_); rotate_left; focus (intro w' hR; go_simp; first | done | (with_reducible rfl))) | refine mix3_freeOff rfl rfl (mix3_norm (a' := ?_) ?_ ?_) | refine mix3_off rfl rfl (mix3_norm (a' := ?_) ?_ ?_)); rotate_left; focus (simp only [Act.put, List.getElem_toArray, List.getElem_cons_zero, List.getElem_cons_succ, List.setIfInBounds_toArray, List.set_cons_zero, List.set_cons_succ]; rfl))
  refine mix3_skip (KeepsBut.refl []) rfl rfl (mix3_norm (a' := ?_) ?_ ?_)
  rotate_left
  focus (simp only [Act.put, List.getElem_toArray, List.getElem_cons_zero, List.getElem_cons_succ, List.setIfInBounds_toArray, List.set_cons_zero, List.set_cons_succ]; rfl)
  repeat ((first | (refine mix3_free (v := ?_) rfl rfl ?_ (mix3_norm (a' := ?_) ?_ ?_); rotate_left; focus (intro w'; go_simp; first | done | (with_reducible rfl))) | (refine mix3_pure (v := ?_) rfl rfl ?_ (mix3_norm (a' := ?_) ?_ ?_); rotate_left; focus (intro w' hR; go_simp; first | done | (with_reducible rfl))) | refine mix3_freeOff rfl rfl (mix3_norm (a' := ?_) ?_ ?_) | refine mix3_off rfl rfl (mix3_norm (a' := ?_) ?_ ?_)); rotate_left; focus (simp only [Act.put, List.getElem_toArray, List.getElem_cons_zero, List.getElem_cons_succ, List.setIfInBounds_toArray, List.set_cons_zero, List.set_cons_succ]; rfl))
  refine mix3_skip (KeepsBut.refl []) rfl rfl (mix3_norm (a' := ?_) ?_ ?_)
  rotate_left
  focus (simp only [Act.put, List.getElem_toArray, List.getElem_cons_zero, List.getElem_cons_succ, List.setIfInBounds_toArray, List.set_cons_zero, List.set_cons_succ]; rfl)
  repeat ((first | (refine mix3_free (v := ?_) rfl rfl ?_ (mix3_norm (a' := ?_) ?_ ?_); rotate_left; focus (intro w'; go_simp; first | done | (with_reducible rfl))) | (refine mix3_pure (v := ?_) rfl rfl ?_ (mix3_norm (a' := ?_) ?_ ?_); rotate_left; focus (intro w' hR; go_simp; first | done | (with_reducible rfl))) | refine mix3_freeOff rfl rfl (mix3_norm (a' := ?_) ?_ ?_) | refine mix3_off rfl rfl (mix3_norm (a' := ?_) ?_ ?_)); rotate_left; focus (simp only [Act.put, List.getElem_toArray, List.getElem_cons_zero, List.getElem_cons_succ, List.setIfInBounds_toArray, List.set_cons_zero, List.set_cons_succ]; rfl))
  refine mix3_done ?_
  go_wp2_with fail
  go_ret2
  exact ⟨_, (by rw [HW.out, bn]; rfl), (fun h => by rw [HW.out, bn] at h; cases h), HB.out⟩
set_option maxHeartbeats 4000000 in
set_option maxRecDepth 100000 in
theorem refBody1b (w : World) (x : Fr) (A : Option Addr) (c : Nat) (hr : Reads w 1 A x.l.length (sts x.l)) (hok : FrOk x) (hB : (bodyL x).length ≤ 100000000) (hl : x.l.length ≤ 2000000) (k1 : (x.k == 1) = true) (bn : numBad 2 x.n = false) (bf : numBad 1 x.f = true) :
    Calls Try.prog 72 #[.agg (x.cells A c)] w fun e w' => ∃ s, e = .returned (.tuple #[.string s, .bool (!bodyW x)]) ∧ (bodyW x = false → bl s = bodyL x) ∧ Below w.heap.size w w' := by
  obtain ⟨hb, hg, _⟩ := alloc1 w (x.cells A c) 58
  have Hr := Lib.hid (hr.below hb)
  have Hr0 := Lib.hid hr
  have wv := wrap64_nat hok.v64
  have HVl := Lib.hid hok.v64
  have wn := u64n_wrap x.n
  have wf := u64n_wrap x.f
  have wi := u64n_wrap x.i
  have wc := u64n_wrap x.c
  have wl := u64n_wrap ((x.l.length : Nat) : Int)
  have HLl := Lib.hid hl
  have HBd := Lib.hid hB
  unfold Fr.cells at hg hb Hr ⊢
  obtain ⟨d0, d1, d2, d3, d4, d5, d6, d7, d8, d9, d10⟩ := cells11 hg
  have HG := Lib.hid hg
  have HB := Lib.hid hb
  clear hr hok hl hg hb hB
  have HL := Lib.hid (show bodyL x = be 4 x.v ++ be 2 (u64n x.n) ++ be 1 (u64n x.f) ++ bl x.d by unfold bodyL; rw [if_pos (by simpa using k1)])
  have HW := Lib.hid (show bodyW x = (numBad 2 x.n || numBad 1 x.f || !rightD x.d) by unfold bodyW; rw [if_pos (by simpa using k1)])
  have hsz : 7 + x.d.size ≤ 100000000 := by have h := HBd.out; rw [HL.out] at h; simp only [List.length_append, be_length, bl_length] at h; omega
  have z4 := t4s x.v
  have z2 := t2s (u64n x.n)
  have z1 := t1s (u64n x.f)
  have a1 := addOk (txt 4 x.v) (txt 2 (u64n x.n)) (by omega)
  have a2 := addOk (txt 4 x.v ++ txt 2 (u64n x.n)) (txt 1 (u64n x.f)) (by rw [ByteArray.size_append]; omega)
  have a3 := addOk (txt 4 x.v ++ txt 2 (u64n x.n) ++ txt 1 (u64n x.f)) x.d (by rw [ByteArray.size_append, ByteArray.size_append]; omega)
  clear hsz z4 z2 z1
  go_enter Try.func72, Try.ntmps72
  go_wp2_with fail
  clear d0 d1 d2 d3 d4 d5 d6 d7 d8 d9 d10
  generalize (w.alloc (.cells #[.int .i64 x.k, .int .u64 (x.s : Int), .int .u64 (x.e : Int), .int .u32 (x.q : Int), .int .u32 (x.v : Int), .int .i64 x.n, .int .i64 x.f, .int .i64 x.i, .int .i64 x.c, .string x.d, .slice A x.l.length c] 58)) = w1 at HG HB Hr ⊢
  refine wp_region_mix3 (KeepsBut []) (KeepsBut.refl []) (KeepsBut.trans []) [] [(0, 0), (0, 4), (0, 9), (0, 14), (0, 17), (1, 1), (1, 2), (1, 5), (1, 6), (1, 10), (1, 11), (1, 15), (1, 18), (2, 3), (2, 7), (0, 8), (2, 12), (0, 13), (0, 16), (2, 19), (0, 20), (0, 21), (1, 22), (2, 23), (0, 24), (0, 25), (0, 26), (1, 27), (2, 28), (0, 29), (0, 30), (0, 31)] (by kernel_rfl) (by kernel_rfl) (fun d _ _ _ _ h => by cases d <;> exact h) ?_
  have HG := Lib.hid (show (w1.drew).heap[w.heap.size]? = _ from HG.out)
  have HB := Lib.hid HB.out.drew
  obtain ⟨d0, d1, d2, d3, d4, d5, d6, d7, d8, d9, d10⟩ := keeps11 (M := []) (w := w1.drew) HG.out (by simp)
  generalize w1.drew = wd at HG HB d0 d1 d2 d3 d4 d5 d6 d7 d8 d9 d10 ⊢
  repeat ((first | (refine mix3_free (v := ?_) rfl rfl ?_ (mix3_norm (a' := ?_) ?_ ?_); rotate_left; focus (intro w'; go_simp; first | done | (with_reducible rfl))) | (refine mix3_pure (v := ?_) rfl rfl ?_ (mix3_norm (a' := ?_) ?_ ?_); rotate_left; focus (intro w' hR; go_simp; first | done | (with_reducible rfl))) | refine mix3_freeOff rfl rfl (mix3_norm (a' := ?_) ?_ ?_) | refine mix3_off rfl rfl (mix3_norm (a' := ?_) ?_ ?_)); rotate_left; focus (simp only [Act.put, List.getElem_toArray, List.getElem_cons_zero, List.getElem_cons_succ, List.setIfInBounds_toArray, List.set_cons_zero, List.set_cons_succ]; rfl))
  clear d0 d1 d2 d3 d4 d5 d6 d7 d8 d9 d10
  refine mix3_eff rfl ?_
  simp only [List.getElem_toArray, List.getElem_cons_zero, List.getElem_cons_succ]
  go_wp2_with fail
  refine (text_any 4 (x.v) (HVl.out) _).mono ?_
  rintro e w2 ⟨rfl, hb⟩
  have HG := Lib.hid ((hb.block _ (Array.getElem?_eq_some_iff.1 HG.out).1).trans HG.out)
  have HB := Lib.hid (HB.out.trans (hb.mono HB.out.size))
  go_wp2_with fail
  refine mixQ3_normal (KeepsBut.of_below hb) rfl ?_
  clear hb
  refine mix3_eff rfl ?_
  simp only [List.getElem_toArray, List.getElem_cons_zero, List.getElem_cons_succ]
  go_wp2_with fail
  refine (text_any 2 (u64n x.n) (u64n_lt _) _).mono ?_
  rintro e w3 ⟨rfl, hb⟩
  have HG := Lib.hid ((hb.block _ (Array.getElem?_eq_some_iff.1 HG.out).1).trans HG.out)
  have HB := Lib.hid (HB.out.trans (hb.mono HB.out.size))
  go_wp2_with fail
  refine mixQ3_normal (KeepsBut.of_below hb) rfl ?_
  clear hb
  repeat ((first | (refine mix3_free (v := ?_) rfl rfl ?_ (mix3_norm (a' := ?_) ?_ ?_); rotate_left; focus (intro w'; go_simp; first | done | (with_reducible rfl))) | (refine mix3_pure (v := ?_) rfl rfl ?_ (mix3_norm (a' := ?_) ?_ ?_); rotate_left; focus (intro w' hR; go_simp; first | done | (with_reducible rfl))) | refine mix3_freeOff rfl rfl (mix3_norm (a' := ?_) ?_ ?_) | refine mix3_off rfl rfl (mix3_norm (a' := ?_) ?_ ?_)); rotate_left; focus (simp only [Act.put, List.getElem_toArray, List.getElem_cons_zero, List.getElem_cons_succ, List.setIfInBounds_toArray, List.set_cons_zero, List.set_cons_succ]; rfl))
  refine mix3_eff rfl ?_
  simp only [List.getElem_toArray, List.getElem_cons_zero, List.getElem_cons_succ]
  go_wp2_with fail
  refine (text_any 1 (u64n x.f) (u64n_lt _) _).mono ?_
  rintro e w4 ⟨rfl, hb⟩
  have HG := Lib.hid ((hb.block _ (Array.getElem?_eq_some_iff.1 HG.out).1).trans HG.out)
  have HB := Lib.hid (HB.out.trans (hb.mono HB.out.size))
  go_wp2_with fail
  refine mixQ3_normal (KeepsBut.of_below hb) rfl ?_
  clear hb
  repeat ((first | (refine mix3_free (v := ?_) rfl rfl ?_ (mix3_norm (a' := ?_) ?_ ?_); rotate_left; focus (intro w'; go_simp; first | done | (with_reducible rfl))) | (refine mix3_pure (v := ?_) rfl rfl ?_ (mix3_norm (a' := ?_) ?_ ?_); rotate_left; focus (intro w' hR; go_simp; first | done | (with_reducible rfl))) | refine mix3_freeOff rfl rfl (mix3_norm (a' := ?_) ?_ ?_) | refine mix3_off rfl rfl (mix3_norm (a' := ?_) ?_ ?_)); rotate_left; focus (simp only [Act.put, List.getElem_toArray, List.getElem_cons_zero, List.getElem_cons_succ, List.setIfInBounds_toArray, List.set_cons_zero, List.set_cons_succ]; rfl))
  refine mix3_eff rfl ?_
  simp only [List.getElem_toArray, List.getElem_cons_zero, List.getElem_cons_succ]
  go_wp2_with fail
  refine (refNum2_any x.n _).mono ?_
  rw [bn]
  rintro e w' ⟨rfl, rfl⟩
  go_wp2_with fail
  refine mixQ3_normal (KeepsBut.refl [] _) rfl ?_
  obtain ⟨d0, d1, d2, d3, d4, d5, d6, d7, d8, d9, d10⟩ := keeps11 (M := []) (w := w4) HG.out (by simp)
  repeat ((first | (refine mix3_free (v := ?_) rfl rfl ?_ (mix3_norm (a' := ?_) ?_ ?_); rotate_left; focus (intro w'; go_simp; first | done | (with_reducible rfl))) | (refine mix3_pure (v := ?_) rfl rfl ?_ (mix3_norm (a' := ?_) ?_ ?_); rotate_left; focus (intro w' hR; go_simp; first | done | (with_reducible rfl))) | refine mix3_freeOff rfl rfl (mix3_norm (a' := ?_) ?_ ?_) | refine mix3_off rfl rfl (mix3_norm (a' := ?_) ?_ ?_)); rotate_left; focus (simp only [Act.put, List.getElem_toArray, List.getElem_cons_zero, List.getElem_cons_succ, List.setIfInBounds_toArray, List.set_cons_zero, List.set_cons_succ]; rfl))
  clear d0 d1 d2 d3 d4 d5 d6 d7 d8 d9 d10
  refine mix3_eff rfl ?_
  simp only [List.getElem_toArray, List.getElem_cons_zero, List.getElem_cons_succ]
  go_wp2_with fail
  refine (refNum1_any x.f _).mono ?_
  rw [bf]
  rintro e w' ⟨rfl, rfl⟩
  go_wp2_with fail
  refine mixQ3_normal (KeepsBut.refl [] _) rfl ?_
  obtain ⟨d0, d1, d2, d3, d4, d5, d6, d7, d8, d9, d10⟩ := keeps11 (M := []) (w := w4) HG.out (by simp)
  repeat ((first | (refine mix3_free (v := ?_) rfl rfl ?_ (mix3_norm (a' := ?_) ?_ ?_); rotate_left; focus (intro w'; go_simp; first | done | (with_reducible rfl))) | (refine mix3_pure (v := ?_) rfl rfl ?_ (mix3_norm (a' := ?_) ?_ ?_); rotate_left; focus (intro w' hR; go_simp; first | done | (with_reducible rfl))) | refine mix3_freeOff rfl rfl (mix3_norm (a' := ?_) ?_ ?_) | refine mix3_off rfl rfl (mix3_norm (a' := ?_) ?_ ?_)); rotate_left; focus (simp only [Act.put, List.getElem_toArray, List.getElem_cons_zero, List.getElem_cons_succ, List.setIfInBounds_toArray, List.set_cons_zero, List.set_cons_succ]; rfl))
  clear d0 d1 d2 d3 d4 d5 d6 d7 d8 d9 d10
  refine mix3_skip (KeepsBut.refl []) rfl rfl (mix3_norm (a' := ?_) ?_ ?_)
  rotate_left
  focus (simp only [Act.put, List.getElem_toArray, List.getElem_cons_zero, List.getElem_cons_succ, List.setIfInBounds_toArray, List.set_cons_zero, List.set_cons_succ]; rfl)
  repeat ((first | (refine mix3_free (v := ?_) rfl rfl ?_ (mix3_norm (a' := ?_) ?_ ?_); rotate_left; focus (intro w'; go_simp; first | done | (with_reducible rfl))) | (refine mix3_pure (v := ?_) rfl rfl ?_ (mix3_norm (a' := ?_) ?_ ?_); rotate_left; focus (intro w' hR; go_simp; first | done | (with_reducible rfl))) | refine mix3_freeOff rfl rfl (mix3_norm (a' := ?_) ?_ ?_) | refine mix3_off rfl rfl (mix3_norm (a' := ?_) ?_ ?_)); rotate_left; focus (simp only [Act.put, List.getElem_toArray, List.getElem_cons_zero, List.getElem_cons_succ, List.setIfInBounds_toArray, List.set_cons_zero, List.set_cons_succ]; rfl))
  refine mix3_done ?_
  go_wp2_with fail
  go_ret2
  exact ⟨_, (by rw [HW.out, bn, bf]; rfl), (fun h => by rw [HW.out, bn, bf] at h; cases h), HB.out⟩
set_option maxHeartbeats 4000000 in
set_option maxRecDepth 100000 in
theorem refBody1c (w : World) (x : Fr) (A : Option Addr) (c : Nat) (hr : Reads w 1 A x.l.length (sts x.l)) (hok : FrOk x) (hB : (bodyL x).length ≤ 100000000) (hl : x.l.length ≤ 2000000) (k1 : (x.k == 1) = true) (bn : numBad 2 x.n = false) (bf : numBad 1 x.f = false) :
    Calls Try.prog 72 #[.agg (x.cells A c)] w fun e w' => ∃ s, e = .returned (.tuple #[.string s, .bool (!bodyW x)]) ∧ (bodyW x = false → bl s = bodyL x) ∧ Below w.heap.size w w' := by
  obtain ⟨hb, hg, _⟩ := alloc1 w (x.cells A c) 58
  have Hr := Lib.hid (hr.below hb)
  have Hr0 := Lib.hid hr
  have wv := wrap64_nat hok.v64
  have HVl := Lib.hid hok.v64
  have wn := u64n_wrap x.n
  have wf := u64n_wrap x.f
  have wi := u64n_wrap x.i
  have wc := u64n_wrap x.c
  have wl := u64n_wrap ((x.l.length : Nat) : Int)
  have HLl := Lib.hid hl
  have HBd := Lib.hid hB
  unfold Fr.cells at hg hb Hr ⊢
  obtain ⟨d0, d1, d2, d3, d4, d5, d6, d7, d8, d9, d10⟩ := cells11 hg
  have HG := Lib.hid hg
  have HB := Lib.hid hb
  clear hr hok hl hg hb hB
  have HL := Lib.hid (show bodyL x = be 4 x.v ++ be 2 (u64n x.n) ++ be 1 (u64n x.f) ++ bl x.d by unfold bodyL; rw [if_pos (by simpa using k1)])
  have HW := Lib.hid (show bodyW x = (numBad 2 x.n || numBad 1 x.f || !rightD x.d) by unfold bodyW; rw [if_pos (by simpa using k1)])
  have hsz : 7 + x.d.size ≤ 100000000 := by have h := HBd.out; rw [HL.out] at h; simp only [List.length_append, be_length, bl_length] at h; omega
  have z4 := t4s x.v
  have z2 := t2s (u64n x.n)
  have z1 := t1s (u64n x.f)
  have a1 := addOk (txt 4 x.v) (txt 2 (u64n x.n)) (by omega)
  have a2 := addOk (txt 4 x.v ++ txt 2 (u64n x.n)) (txt 1 (u64n x.f)) (by rw [ByteArray.size_append]; omega)
  have a3 := addOk (txt 4 x.v ++ txt 2 (u64n x.n) ++ txt 1 (u64n x.f)) x.d (by rw [ByteArray.size_append, ByteArray.size_append]; omega)
  clear hsz z4 z2 z1
  go_enter Try.func72, Try.ntmps72
  go_wp2_with fail
  clear d0 d1 d2 d3 d4 d5 d6 d7 d8 d9 d10
  generalize (w.alloc (.cells #[.int .i64 x.k, .int .u64 (x.s : Int), .int .u64 (x.e : Int), .int .u32 (x.q : Int), .int .u32 (x.v : Int), .int .i64 x.n, .int .i64 x.f, .int .i64 x.i, .int .i64 x.c, .string x.d, .slice A x.l.length c] 58)) = w1 at HG HB Hr ⊢
  refine wp_region_mix3 (KeepsBut []) (KeepsBut.refl []) (KeepsBut.trans []) [] [(0, 0), (0, 4), (0, 9), (0, 14), (0, 17), (1, 1), (1, 2), (1, 5), (1, 6), (1, 10), (1, 11), (1, 15), (1, 18), (2, 3), (2, 7), (0, 8), (2, 12), (0, 13), (0, 16), (2, 19), (0, 20), (0, 21), (1, 22), (2, 23), (0, 24), (0, 25), (0, 26), (1, 27), (2, 28), (0, 29), (0, 30), (0, 31)] (by kernel_rfl) (by kernel_rfl) (fun d _ _ _ _ h => by cases d <;> exact h) ?_
  have HG := Lib.hid (show (w1.drew).heap[w.heap.size]? = _ from HG.out)
  have HB := Lib.hid HB.out.drew
  obtain ⟨d0, d1, d2, d3, d4, d5, d6, d7, d8, d9, d10⟩ := keeps11 (M := []) (w := w1.drew) HG.out (by simp)
  generalize w1.drew = wd at HG HB d0 d1 d2 d3 d4 d5 d6 d7 d8 d9 d10 ⊢
  repeat ((first | (refine mix3_free (v := ?_) rfl rfl ?_ (mix3_norm (a' := ?_) ?_ ?_); rotate_left; focus (intro w'; go_simp; first | done | (with_reducible rfl))) | (refine mix3_pure (v := ?_) rfl rfl ?_ (mix3_norm (a' := ?_) ?_ ?_); rotate_left; focus (intro w' hR; go_simp; first | done | (with_reducible rfl))) | refine mix3_freeOff rfl rfl (mix3_norm (a' := ?_) ?_ ?_) | refine mix3_off rfl rfl (mix3_norm (a' := ?_) ?_ ?_)); rotate_left; focus (simp only [Act.put, List.getElem_toArray, List.getElem_cons_zero, List.getElem_cons_succ, List.setIfInBounds_toArray, List.set_cons_zero, List.set_cons_succ]; rfl))
  clear d0 d1 d2 d3 d4 d5 d6 d7 d8 d9 d10
  refine mix3_eff rfl ?_
  simp only [List.getElem_toArray, List.getElem_cons_zero, List.getElem_cons_succ]
  go_wp2_with fail
  refine (text_any 4 (x.v) (HVl.out) _).mono ?_
  rintro e w2 ⟨rfl, hb⟩
  have HG := Lib.hid ((hb.block _ (Array.getElem?_eq_some_iff.1 HG.out).1).trans HG.out)
  have HB := Lib.hid (HB.out.trans (hb.mono HB.out.size))
  go_wp2_with fail
  refine mixQ3_normal (KeepsBut.of_below hb) rfl ?_
  clear hb
  refine mix3_eff rfl ?_
  simp only [List.getElem_toArray, List.getElem_cons_zero, List.getElem_cons_succ]
  go_wp2_with fail
  refine (text_any 2 (u64n x.n) (u64n_lt _) _).mono ?_
  rintro e w3 ⟨rfl, hb⟩
  have HG := Lib.hid ((hb.block _ (Array.getElem?_eq_some_iff.1 HG.out).1).trans HG.out)
  have HB := Lib.hid (HB.out.trans (hb.mono HB.out.size))
  go_wp2_with fail
  refine mixQ3_normal (KeepsBut.of_below hb) rfl ?_
  clear hb
  repeat ((first | (refine mix3_free (v := ?_) rfl rfl ?_ (mix3_norm (a' := ?_) ?_ ?_); rotate_left; focus (intro w'; go_simp; first | done | (with_reducible rfl))) | (refine mix3_pure (v := ?_) rfl rfl ?_ (mix3_norm (a' := ?_) ?_ ?_); rotate_left; focus (intro w' hR; go_simp; first | done | (with_reducible rfl))) | refine mix3_freeOff rfl rfl (mix3_norm (a' := ?_) ?_ ?_) | refine mix3_off rfl rfl (mix3_norm (a' := ?_) ?_ ?_)); rotate_left; focus (simp only [Act.put, List.getElem_toArray, List.getElem_cons_zero, List.getElem_cons_succ, List.setIfInBounds_toArray, List.set_cons_zero, List.set_cons_succ]; rfl))
  refine mix3_eff rfl ?_
  simp only [List.getElem_toArray, List.getElem_cons_zero, List.getElem_cons_succ]
  go_wp2_with fail
  refine (text_any 1 (u64n x.f) (u64n_lt _) _).mono ?_
  rintro e w4 ⟨rfl, hb⟩
  have HG := Lib.hid ((hb.block _ (Array.getElem?_eq_some_iff.1 HG.out).1).trans HG.out)
  have HB := Lib.hid (HB.out.trans (hb.mono HB.out.size))
  go_wp2_with fail
  refine mixQ3_normal (KeepsBut.of_below hb) rfl ?_
  clear hb
  repeat ((first | (refine mix3_free (v := ?_) rfl rfl ?_ (mix3_norm (a' := ?_) ?_ ?_); rotate_left; focus (intro w'; go_simp; first | done | (with_reducible rfl))) | (refine mix3_pure (v := ?_) rfl rfl ?_ (mix3_norm (a' := ?_) ?_ ?_); rotate_left; focus (intro w' hR; go_simp; first | done | (with_reducible rfl))) | refine mix3_freeOff rfl rfl (mix3_norm (a' := ?_) ?_ ?_) | refine mix3_off rfl rfl (mix3_norm (a' := ?_) ?_ ?_)); rotate_left; focus (simp only [Act.put, List.getElem_toArray, List.getElem_cons_zero, List.getElem_cons_succ, List.setIfInBounds_toArray, List.set_cons_zero, List.set_cons_succ]; rfl))
  refine mix3_eff rfl ?_
  simp only [List.getElem_toArray, List.getElem_cons_zero, List.getElem_cons_succ]
  go_wp2_with fail
  refine (refNum2_any x.n _).mono ?_
  rw [bn]
  rintro e w' ⟨rfl, rfl⟩
  go_wp2_with fail
  refine mixQ3_normal (KeepsBut.refl [] _) rfl ?_
  obtain ⟨d0, d1, d2, d3, d4, d5, d6, d7, d8, d9, d10⟩ := keeps11 (M := []) (w := w4) HG.out (by simp)
  repeat ((first | (refine mix3_free (v := ?_) rfl rfl ?_ (mix3_norm (a' := ?_) ?_ ?_); rotate_left; focus (intro w'; go_simp; first | done | (with_reducible rfl))) | (refine mix3_pure (v := ?_) rfl rfl ?_ (mix3_norm (a' := ?_) ?_ ?_); rotate_left; focus (intro w' hR; go_simp; first | done | (with_reducible rfl))) | refine mix3_freeOff rfl rfl (mix3_norm (a' := ?_) ?_ ?_) | refine mix3_off rfl rfl (mix3_norm (a' := ?_) ?_ ?_)); rotate_left; focus (simp only [Act.put, List.getElem_toArray, List.getElem_cons_zero, List.getElem_cons_succ, List.setIfInBounds_toArray, List.set_cons_zero, List.set_cons_succ]; rfl))
  clear d0 d1 d2 d3 d4 d5 d6 d7 d8 d9 d10
  refine mix3_eff rfl ?_
  simp only [List.getElem_toArray, List.getElem_cons_zero, List.getElem_cons_succ]
  go_wp2_with fail
  refine (refNum1_any x.f _).mono ?_
  rw [bf]
  rintro e w' ⟨rfl, rfl⟩
  go_wp2_with fail
  refine mixQ3_normal (KeepsBut.refl [] _) rfl ?_
  obtain ⟨d0, d1, d2, d3, d4, d5, d6, d7, d8, d9, d10⟩ := keeps11 (M := []) (w := w4) HG.out (by simp)
  repeat ((first | (refine mix3_free (v := ?_) rfl rfl ?_ (mix3_norm (a' := ?_) ?_ ?_); rotate_left; focus (intro w'; go_simp; first | done | (with_reducible rfl))) | (refine mix3_pure (v := ?_) rfl rfl ?_ (mix3_norm (a' := ?_) ?_ ?_); rotate_left; focus (intro w' hR; go_simp; first | done | (with_reducible rfl))) | refine mix3_freeOff rfl rfl (mix3_norm (a' := ?_) ?_ ?_) | refine mix3_off rfl rfl (mix3_norm (a' := ?_) ?_ ?_)); rotate_left; focus (simp only [Act.put, List.getElem_toArray, List.getElem_cons_zero, List.getElem_cons_succ, List.setIfInBounds_toArray, List.set_cons_zero, List.set_cons_succ]; rfl))
  clear d0 d1 d2 d3 d4 d5 d6 d7 d8 d9 d10
  refine mix3_eff rfl ?_
  simp only [List.getElem_toArray, List.getElem_cons_zero, List.getElem_cons_succ]
  go_wp2_with fail
  refine (refDigRight_any x.d _).mono ?_
  rintro e w' ⟨rfl, rfl⟩
  go_wp2_with fail
  refine mixQ3_normal (KeepsBut.refl [] _) rfl ?_
  repeat ((first | (refine mix3_free (v := ?_) rfl rfl ?_ (mix3_norm (a' := ?_) ?_ ?_); rotate_left; focus (intro w'; go_simp; first | done | (with_reducible rfl))) | (refine mix3_pure (v := ?_) rfl rfl ?_ (mix3_norm (a' := ?_) ?_ ?_); rotate_left; focus (intro w' hR; go_simp; first | done | (with_reducible rfl))) | refine mix3_freeOff rfl rfl (mix3_norm (a' := ?_) ?_ ?_) | refine mix3_off rfl rfl (mix3_norm (a' := ?_) ?_ ?_)); rotate_left; focus (simp only [Act.put, List.getElem_toArray, List.getElem_cons_zero, List.getElem_cons_succ, List.setIfInBounds_toArray, List.set_cons_zero, List.set_cons_succ]; rfl))
  refine mix3_done ?_
  go_wp2_with fail
  go_ret2
  exact ⟨txt 4 x.v ++ txt 2 (u64n x.n) ++ txt 1 (u64n x.f) ++ x.d, (by rw [HW.out, bn, bf]; simp), (fun _ => by rw [HL.out]; rw [bl_append, bl_append, bl_append, t4b, t2b, t1b]), HB.out⟩
set_option maxHeartbeats 4000000 in
set_option maxRecDepth 100000 in
theorem refBody2 (w : World) (x : Fr) (A : Option Addr) (c : Nat) (hr : Reads w 1 A x.l.length (sts x.l)) (hok : FrOk x) (hB : (bodyL x).length ≤ 100000000) (hl : x.l.length ≤ 2000000) (k1 : (x.k == 1) = false) (k2 : (x.k == 2) = true) :
    Calls Try.prog 72 #[.agg (x.cells A c)] w fun e w' => ∃ s, e = .returned (.tuple #[.string s, .bool (!bodyW x)]) ∧ (bodyW x = false → bl s = bodyL x) ∧ Below w.heap.size w w' := by
  obtain ⟨hb, hg, _⟩ := alloc1 w (x.cells A c) 58
  have Hr := Lib.hid (hr.below hb)
  have Hr0 := Lib.hid hr
  have wv := wrap64_nat hok.v64
  have HVl := Lib.hid hok.v64
  have wn := u64n_wrap x.n
  have wf := u64n_wrap x.f
  have wi := u64n_wrap x.i
  have wc := u64n_wrap x.c
  have wl := u64n_wrap ((x.l.length : Nat) : Int)
  have HLl := Lib.hid hl
  have HBd := Lib.hid hB
  unfold Fr.cells at hg hb Hr ⊢
  obtain ⟨d0, d1, d2, d3, d4, d5, d6, d7, d8, d9, d10⟩ := cells11 hg
  have HG := Lib.hid hg
  have HB := Lib.hid hb
  clear hr hok hl hg hb hB
  have HL := Lib.hid (show bodyL x = be 1 (u64n x.c) by unfold bodyL; rw [if_neg (by simpa using k1), if_pos (by simpa using k2)])
  have HW := Lib.hid (show bodyW x = numBad 1 x.c by unfold bodyW; rw [if_neg (by simpa using k1), if_pos (by simpa using k2)])
  go_enter Try.func72, Try.ntmps72
  go_wp2_with fail
  clear d0 d1 d2 d3 d4 d5 d6 d7 d8 d9 d10
  generalize (w.alloc (.cells #[.int .i64 x.k, .int .u64 (x.s : Int), .int .u64 (x.e : Int), .int .u32 (x.q : Int), .int .u32 (x.v : Int), .int .i64 x.n, .int .i64 x.f, .int .i64 x.i, .int .i64 x.c, .string x.d, .slice A x.l.length c] 58)) = w1 at HG HB Hr ⊢
  refine wp_region_mix3 (KeepsBut []) (KeepsBut.refl []) (KeepsBut.trans []) [] [(0, 0), (0, 4), (1, 1), (1, 2), (1, 5), (2, 3), (2, 6), (0, 7), (0, 8)] (by kernel_rfl) (by kernel_rfl) (fun d _ _ _ _ h => by cases d <;> exact h) ?_
  have HG := Lib.hid (show (w1.drew).heap[w.heap.size]? = _ from HG.out)
  have HB := Lib.hid HB.out.drew
  obtain ⟨d0, d1, d2, d3, d4, d5, d6, d7, d8, d9, d10⟩ := keeps11 (M := []) (w := w1.drew) HG.out (by simp)
  generalize w1.drew = wd at HG HB d0 d1 d2 d3 d4 d5 d6 d7 d8 d9 d10 ⊢
  repeat ((first | (refine mix3_free (v := ?_) rfl rfl ?_ (mix3_norm (a' := ?_) ?_ ?_); rotate_left; focus (intro w'; go_simp; first | done | (with_reducible rfl))) | (refine mix3_pure (v := ?_) rfl rfl ?_ (mix3_norm (a' := ?_) ?_ ?_); rotate_left; focus (intro w' hR; go_simp; first | done | (with_reducible rfl))) | refine mix3_freeOff rfl rfl (mix3_norm (a' := ?_) ?_ ?_) | refine mix3_off rfl rfl (mix3_norm (a' := ?_) ?_ ?_)); rotate_left; focus (simp only [Act.put, List.getElem_toArray, List.getElem_cons_zero, List.getElem_cons_succ, List.setIfInBounds_toArray, List.set_cons_zero, List.set_cons_succ]; rfl))
  clear d0 d1 d2 d3 d4 d5 d6 d7 d8 d9 d10
  refine mix3_eff rfl ?_
  simp only [List.getElem_toArray, List.getElem_cons_zero, List.getElem_cons_succ]
  go_wp2_with fail
  refine (text_any 1 (u64n x.c) (u64n_lt _) _).mono ?_
  rintro e w2 ⟨rfl, hb⟩
  have HG := Lib.hid ((hb.block _ (Array.getElem?_eq_some_iff.1 HG.out).1).trans HG.out)
  have HB := Lib.hid (HB.out.trans (hb.mono HB.out.size))
  go_wp2_with fail
  refine mixQ3_normal (KeepsBut.of_below hb) rfl ?_
  clear hb
  refine mix3_eff rfl ?_
  simp only [List.getElem_toArray, List.getElem_cons_zero, List.getElem_cons_succ]
  go_wp2_with fail
  refine (refNum1_any x.c _).mono ?_
  rintro e w' ⟨rfl, rfl⟩
  go_wp2_with fail
  refine mixQ3_normal (KeepsBut.refl [] _) rfl ?_
  repeat ((first | (refine mix3_free (v := ?_) rfl rfl ?_ (mix3_norm (a' := ?_) ?_ ?_); rotate_left; focus (intro w'; go_simp; first | done | (with_reducible rfl))) | (refine mix3_pure (v := ?_) rfl rfl ?_ (mix3_norm (a' := ?_) ?_ ?_); rotate_left; focus (intro w' hR; go_simp; first | done | (with_reducible rfl))) | refine mix3_freeOff rfl rfl (mix3_norm (a' := ?_) ?_ ?_) | refine mix3_off rfl rfl (mix3_norm (a' := ?_) ?_ ?_)); rotate_left; focus (simp only [Act.put, List.getElem_toArray, List.getElem_cons_zero, List.getElem_cons_succ, List.setIfInBounds_toArray, List.set_cons_zero, List.set_cons_succ]; rfl))
  refine mix3_done ?_
  go_wp2_with fail
  go_ret2
  exact ⟨txt 1 (u64n x.c), (by rw [HW.out]; rfl), (fun _ => by rw [HL.out, t1b]), HB.out⟩
set_option maxHeartbeats 4000000 in
set_option maxRecDepth 100000 in
theorem refBody3 (w : World) (x : Fr) (A : Option Addr) (c : Nat) (hr : Reads w 1 A x.l.length (sts x.l)) (hok : FrOk x) (hB : (bodyL x).length ≤ 100000000) (hl : x.l.length ≤ 2000000) (k1 : (x.k == 1) = false) (k2 : (x.k == 2) = false) (k3 : (x.k == 3) = true) :
    Calls Try.prog 72 #[.agg (x.cells A c)] w fun e w' => ∃ s, e = .returned (.tuple #[.string s, .bool (!bodyW x)]) ∧ (bodyW x = false → bl s = bodyL x) ∧ Below w.heap.size w w' := by
  obtain ⟨hb, hg, _⟩ := alloc1 w (x.cells A c) 58
  have Hr := Lib.hid (hr.below hb)
  have Hr0 := Lib.hid hr
  have wv := wrap64_nat hok.v64
  have HVl := Lib.hid hok.v64
  have wn := u64n_wrap x.n
  have wf := u64n_wrap x.f
  have wi := u64n_wrap x.i
  have wc := u64n_wrap x.c
  have wl := u64n_wrap ((x.l.length : Nat) : Int)
  have HLl := Lib.hid hl
  have HBd := Lib.hid hB
  unfold Fr.cells at hg hb Hr ⊢
  obtain ⟨d0, d1, d2, d3, d4, d5, d6, d7, d8, d9, d10⟩ := cells11 hg
  have HG := Lib.hid hg
  have HB := Lib.hid hb
  clear hr hok hl hg hb hB
  have hk : x.k = 3 ∨ x.k = 5 := by simp only [beq_iff_eq] at k3; omega
  have HL := Lib.hid (show bodyL x = be 2 (u64n x.i) by unfold bodyL; rw [if_neg (by simpa using k1), if_neg (by simpa using k2), if_pos hk])
  have HW := Lib.hid (show bodyW x = numBad 2 x.i by unfold bodyW; rw [if_neg (by simpa using k1), if_neg (by simpa using k2), if_pos hk])
  clear hk
  go_enter Try.func72, Try.ntmps72
  go_wp2_with fail
  clear d0 d1 d2 d3 d4 d5 d6 d7 d8 d9 d10
  generalize (w.alloc (.cells #[.int .i64 x.k, .int .u64 (x.s : Int), .int .u64 (x.e : Int), .int .u32 (x.q : Int), .int .u32 (x.v : Int), .int .i64 x.n, .int .i64 x.f, .int .i64 x.i, .int .i64 x.c, .string x.d, .slice A x.l.length c] 58)) = w1 at HG HB Hr ⊢
  refine wp_region_mix3 (KeepsBut []) (KeepsBut.refl []) (KeepsBut.trans []) [] [(0, 0), (0, 4), (1, 1), (1, 2), (1, 5), (2, 3), (2, 6), (0, 7), (0, 8)] (by kernel_rfl) (by kernel_rfl) (fun d _ _ _ _ h => by cases d <;> exact h) ?_
  have HG := Lib.hid (show (w1.drew).heap[w.heap.size]? = _ from HG.out)
  have HB := Lib.hid HB.out.drew
  obtain ⟨d0, d1, d2, d3, d4, d5, d6, d7, d8, d9, d10⟩ := keeps11 (M := []) (w := w1.drew) HG.out (by simp)
  generalize w1.drew = wd at HG HB d0 d1 d2 d3 d4 d5 d6 d7 d8 d9 d10 ⊢
  repeat ((first | (refine mix3_free (v := ?_) rfl rfl ?_ (mix3_norm (a' := ?_) ?_ ?_); rotate_left; focus (intro w'; go_simp; first | done | (with_reducible rfl))) | (refine mix3_pure (v := ?_) rfl rfl ?_ (mix3_norm (a' := ?_) ?_ ?_); rotate_left; focus (intro w' hR; go_simp; first | done | (with_reducible rfl))) | refine mix3_freeOff rfl rfl (mix3_norm (a' := ?_) ?_ ?_) | refine mix3_off rfl rfl (mix3_norm (a' := ?_) ?_ ?_)); rotate_left; focus (simp only [Act.put, List.getElem_toArray, List.getElem_cons_zero, List.getElem_cons_succ, List.setIfInBounds_toArray, List.set_cons_zero, List.set_cons_succ]; rfl))
  clear d0 d1 d2 d3 d4 d5 d6 d7 d8 d9 d10
  refine mix3_eff rfl ?_
  simp only [List.getElem_toArray, List.getElem_cons_zero, List.getElem_cons_succ]
  go_wp2_with fail
  refine (text_any 2 (u64n x.i) (u64n_lt _) _).mono ?_
  rintro e w2 ⟨rfl, hb⟩
  have HG := Lib.hid ((hb.block _ (Array.getElem?_eq_some_iff.1 HG.out).1).trans HG.out)
  have HB := Lib.hid (HB.out.trans (hb.mono HB.out.size))
  go_wp2_with fail
  refine mixQ3_normal (KeepsBut.of_below hb) rfl ?_
  clear hb
  refine mix3_eff rfl ?_
  simp only [List.getElem_toArray, List.getElem_cons_zero, List.getElem_cons_succ]
  go_wp2_with fail
  refine (refNum2_any x.i _).mono ?_
  rintro e w' ⟨rfl, rfl⟩
  go_wp2_with fail
  refine mixQ3_normal (KeepsBut.refl [] _) rfl ?_
  repeat ((first | (refine mix3_free (v := ?_) rfl rfl ?_ (mix3_norm (a' := ?_) ?_ ?_); rotate_left; focus (intro w'; go_simp; first | done | (with_reducible rfl))) | (refine mix3_pure (v := ?_) rfl rfl ?_ (mix3_norm (a' := ?_) ?_ ?_); rotate_left; focus (intro w' hR; go_simp; first | done | (with_reducible rfl))) | refine mix3_freeOff rfl rfl (mix3_norm (a' := ?_) ?_ ?_) | refine mix3_off rfl rfl (mix3_norm (a' := ?_) ?_ ?_)); rotate_left; focus (simp only [Act.put, List.getElem_toArray, List.getElem_cons_zero, List.getElem_cons_succ, List.setIfInBounds_toArray, List.set_cons_zero, List.set_cons_succ]; rfl))
  refine mix3_done ?_
  go_wp2_with fail
  go_ret2
  exact ⟨txt 2 (u64n x.i), (by rw [HW.out]; rfl), (fun _ => by rw [HL.out, t2b]), HB.out⟩
set_option maxHeartbeats 4000000 in
set_option maxRecDepth 100000 in
theorem refBody5 (w : World) (x : Fr) (A : Option Addr) (c : Nat) (hr : Reads w 1 A x.l.length (sts x.l)) (hok : FrOk x) (hB : (bodyL x).length ≤ 100000000) (hl : x.l.length ≤ 2000000) (k1 : (x.k == 1) = false) (k2 : (x.k == 2) = false) (k3 : (x.k == 3) = false) (k5 : (x.k == 5) = true) :
    Calls Try.prog 72 #[.agg (x.cells A c)] w fun e w' => ∃ s, e = .returned (.tuple #[.string s, .bool (!bodyW x)]) ∧ (bodyW x = false → bl s = bodyL x) ∧ Below w.heap.size w w' := by
  obtain ⟨hb, hg, _⟩ := alloc1 w (x.cells A c) 58
  have Hr := Lib.hid (hr.below hb)
  have Hr0 := Lib.hid hr
  have wv := wrap64_nat hok.v64
  have HVl := Lib.hid hok.v64
  have wn := u64n_wrap x.n
  have wf := u64n_wrap x.f
  have wi := u64n_wrap x.i
  have wc := u64n_wrap x.c
  have wl := u64n_wrap ((x.l.length : Nat) : Int)
  have HLl := Lib.hid hl
  have HBd := Lib.hid hB
  unfold Fr.cells at hg hb Hr ⊢
  obtain ⟨d0, d1, d2, d3, d4, d5, d6, d7, d8, d9, d10⟩ := cells11 hg
  have HG := Lib.hid hg
  have HB := Lib.hid hb
  clear hr hok hl hg hb hB
  have hk : x.k = 3 ∨ x.k = 5 := by simp only [beq_iff_eq] at k5; omega
  have HL := Lib.hid (show bodyL x = be 2 (u64n x.i) by unfold bodyL; rw [if_neg (by simpa using k1), if_neg (by simpa using k2), if_pos hk])
  have HW := Lib.hid (show bodyW x = numBad 2 x.i by unfold bodyW; rw [if_neg (by simpa using k1), if_neg (by simpa using k2), if_pos hk])
  clear hk
  go_enter Try.func72, Try.ntmps72
  go_wp2_with fail
  clear d0 d1 d2 d3 d4 d5 d6 d7 d8 d9 d10
  generalize (w.alloc (.cells #[.int .i64 x.k, .int .u64 (x.s : Int), .int .u64 (x.e : Int), .int .u32 (x.q : Int), .int .u32 (x.v : Int), .int .i64 x.n, .int .i64 x.f, .int .i64 x.i, .int .i64 x.c, .string x.d, .slice A x.l.length c] 58)) = w1 at HG HB Hr ⊢
  refine wp_region_mix3 (KeepsBut []) (KeepsBut.refl []) (KeepsBut.trans []) [] [(0, 0), (0, 4), (1, 1), (1, 2), (1, 5), (2, 3), (2, 6), (0, 7), (0, 8)] (by kernel_rfl) (by kernel_rfl) (fun d _ _ _ _ h => by cases d <;> exact h) ?_
  have HG := Lib.hid (show (w1.drew).heap[w.heap.size]? = _ from HG.out)
  have HB := Lib.hid HB.out.drew
  obtain ⟨d0, d1, d2, d3, d4, d5, d6, d7, d8, d9, d10⟩ := keeps11 (M := []) (w := w1.drew) HG.out (by simp)
  generalize w1.drew = wd at HG HB d0 d1 d2 d3 d4 d5 d6 d7 d8 d9 d10 ⊢
  repeat ((first | (refine mix3_free (v := ?_) rfl rfl ?_ (mix3_norm (a' := ?_) ?_ ?_); rotate_left; focus (intro w'; go_simp; first | done | (with_reducible rfl))) | (refine mix3_pure (v := ?_) rfl rfl ?_ (mix3_norm (a' := ?_) ?_ ?_); rotate_left; focus (intro w' hR; go_simp; first | done | (with_reducible rfl))) | refine mix3_freeOff rfl rfl (mix3_norm (a' := ?_) ?_ ?_) | refine mix3_off rfl rfl (mix3_norm (a' := ?_) ?_ ?_)); rotate_left; focus (simp only [Act.put, List.getElem_toArray, List.getElem_cons_zero, List.getElem_cons_succ, List.setIfInBounds_toArray, List.set_cons_zero, List.set_cons_succ]; rfl))
  clear d0 d1 d2 d3 d4 d5 d6 d7 d8 d9 d10
  refine mix3_eff rfl ?_
  simp only [List.getElem_toArray, List.getElem_cons_zero, List.getElem_cons_succ]
  go_wp2_with fail
  refine (text_any 2 (u64n x.i) (u64n_lt _) _).mono ?_
  rintro e w2 ⟨rfl, hb⟩
  have HG := Lib.hid ((hb.block _ (Array.getElem?_eq_some_iff.1 HG.out).1).trans HG.out)
  have HB := Lib.hid (HB.out.trans (hb.mono HB.out.size))
  go_wp2_with fail
  refine mixQ3_normal (KeepsBut.of_below hb) rfl ?_
  clear hb
  refine mix3_eff rfl ?_
  simp only [List.getElem_toArray, List.getElem_cons_zero, List.getElem_cons_succ]
  go_wp2_with fail
  refine (refNum2_any x.i _).mono ?_
  rintro e w' ⟨rfl, rfl⟩
  go_wp2_with fail
  refine mixQ3_normal (KeepsBut.refl [] _) rfl ?_
  repeat ((first | (refine mix3_free (v := ?_) rfl rfl ?_ (mix3_norm (a' := ?_) ?_ ?_); rotate_left; focus (intro w'; go_simp; first | done | (with_reducible rfl))) | (refine mix3_pure (v := ?_) rfl rfl ?_ (mix3_norm (a' := ?_) ?_ ?_); rotate_left; focus (intro w' hR; go_simp; first | done | (with_reducible rfl))) | refine mix3_freeOff rfl rfl (mix3_norm (a' := ?_) ?_ ?_) | refine mix3_off rfl rfl (mix3_norm (a' := ?_) ?_ ?_)); rotate_left; focus (simp only [Act.put, List.getElem_toArray, List.getElem_cons_zero, List.getElem_cons_succ, List.setIfInBounds_toArray, List.set_cons_zero, List.set_cons_succ]; rfl))
  refine mix3_done ?_
  go_wp2_with fail
  go_ret2
  exact ⟨txt 2 (u64n x.i), (by rw [HW.out]; rfl), (fun _ => by rw [HL.out, t2b]), HB.out⟩
set_option maxHeartbeats 4000000 in
set_option maxRecDepth 100000 in
theorem refBody4a (w : World) (x : Fr) (A : Option Addr) (c : Nat) (hr : Reads w 1 A x.l.length (sts x.l)) (hok : FrOk x) (hB : (bodyL x).length ≤ 100000000) (hl : x.l.length ≤ 2000000) (k1 : (x.k == 1) = false) (k2 : (x.k == 2) = false) (k3 : (x.k == 3) = false) (k5 : (x.k == 5) = false) (k4 : (x.k == 4) = true) (bn : numBad 2 x.i = true) :
    Calls Try.prog 72 #[.agg (x.cells A c)] w fun e w' => ∃ s, e = .returned (.tuple #[.string s, .bool (!bodyW x)]) ∧ (bodyW x = false → bl s = bodyL x) ∧ Below w.heap.size w w' := by
  obtain ⟨hb, hg, _⟩ := alloc1 w (x.cells A c) 58
  have Hr := Lib.hid (hr.below hb)
  have Hr0 := Lib.hid hr
  have wv := wrap64_nat hok.v64
  have HVl := Lib.hid hok.v64
  have wn := u64n_wrap x.n
  have wf := u64n_wrap x.f
  have wi := u64n_wrap x.i
  have wc := u64n_wrap x.c
  have wl := u64n_wrap ((x.l.length : Nat) : Int)
  have HLl := Lib.hid hl
  have HBd := Lib.hid hB
  unfold Fr.cells at hg hb Hr ⊢
  obtain ⟨d0, d1, d2, d3, d4, d5, d6, d7, d8, d9, d10⟩ := cells11 hg
  have HG := Lib.hid hg
  have HB := Lib.hid hb
  clear hr hok hl hg hb hB
  have hk : ¬ (x.k = 3 ∨ x.k = 5) := by simp only [beq_eq_false_iff_ne] at k3 k5; omega
  have HL := Lib.hid (show bodyL x = be 2 (u64n x.i) ++ be 1 (u64n x.l.length) ++ x.l.flatMap bl by unfold bodyL; rw [if_neg (by simpa using k1), if_neg (by simpa using k2), if_neg hk, if_pos (by simpa using k4)])
  have HW := Lib.hid (show bodyW x = (numBad 2 x.i || numBad 1 x.l.length || decide (4 < x.l.length) || x.l.any (fun s => !rightD s)) by unfold bodyW; rw [if_neg (by simpa using k1), if_neg (by simpa using k2), if_neg hk, if_pos (by simpa using k4)])
  clear hk
  have a1 := addOk (txt 2 (u64n x.i)) (txt 1 (u64n x.l.length)) (by have z2 := t2s (u64n x.i); have z1 := t1s (u64n x.l.length); omega)
  have HO := Lib.hid (show (!numBad 2 x.i && decide (x.l.length ≤ 4)) = false by rw [bn]; rfl)
  go_enter Try.func72, Try.ntmps72
  go_wp2_with fail
  clear d0 d1 d2 d3 d4 d5 d6 d7 d8 d9 d10
  generalize (w.alloc (.cells #[.int .i64 x.k, .int .u64 (x.s : Int), .int .u64 (x.e : Int), .int .u32 (x.q : Int), .int .u32 (x.v : Int), .int .i64 x.n, .int .i64 x.f, .int .i64 x.i, .int .i64 x.c, .string x.d, .slice A x.l.length c] 58)) = w1 at HG HB Hr ⊢
  refine wp_region_mix3 (KeepsBut []) (KeepsBut.refl []) (KeepsBut.trans []) [] [(0, 0), (0, 4), (1, 1), (1, 2), (1, 5), (0, 6), (1, 7), (2, 3), (2, 8), (0, 9), (0, 10)] (by kernel_rfl) (by kernel_rfl) (fun d _ _ _ _ h => by cases d <;> exact h) ?_
  have HG := Lib.hid (show (w1.drew).heap[w.heap.size]? = _ from HG.out)
  have HB := Lib.hid HB.out.drew
  obtain ⟨d0, d1, d2, d3, d4, d5, d6, d7, d8, d9, d10⟩ := keeps11 (M := []) (w := w1.drew) HG.out (by simp)
  generalize w1.drew = wd at HG HB d0 d1 d2 d3 d4 d5 d6 d7 d8 d9 d10 ⊢
  repeat ((first | (refine mix3_free (v := ?_) rfl rfl ?_ (mix3_norm (a' := ?_) ?_ ?_); rotate_left; focus (intro w'; go_simp; first | done | (with_reducible rfl))) | (refine mix3_pure (v := ?_) rfl rfl ?_ (mix3_norm (a' := ?_) ?_ ?_); rotate_left; focus (intro w' hR; go_simp; first | done | (with_reducible rfl))) | refine mix3_freeOff rfl rfl (mix3_norm (a' := ?_) ?_ ?_) | refine mix3_off rfl rfl (mix3_norm (a' := ?_) ?_ ?_)); rotate_left; focus (simp only [Act.put, List.getElem_toArray, List.getElem_cons_zero, List.getElem_cons_succ, List.setIfInBounds_toArray, List.set_cons_zero, List.set_cons_succ]; rfl))
  clear d0 d1 d2 d3 d4 d5 d6 d7 d8 d9 d10
  refine mix3_eff rfl ?_
  simp only [List.getElem_toArray, List.getElem_cons_zero, List.getElem_cons_succ]
  go_wp2_with fail
  refine (text_any 2 (u64n x.i) (u64n_lt _) _).mono ?_
  rintro e w2 ⟨rfl, hb⟩
  have HG := Lib.hid ((hb.block _ (Array.getElem?_eq_some_iff.1 HG.out).1).trans HG.out)
  have HB := Lib.hid (HB.out.trans (hb.mono HB.out.size))
  go_wp2_with fail
  refine mixQ3_normal (KeepsBut.of_below hb) rfl ?_
  clear hb
  repeat ((first | (refine mix3_free (v := ?_) rfl rfl ?_ (mix3_norm (a' := ?_) ?_ ?_); rotate_left; focus (intro w'; go_simp; first | done | (with_reducible rfl))) | (refine mix3_pure (v := ?_) rfl rfl ?_ (mix3_norm (a' := ?_) ?_ ?_); rotate_left; focus (intro w' hR; go_simp; first | done | (with_reducible rfl))) | refine mix3_freeOff rfl rfl (mix3_norm (a' := ?_) ?_ ?_) | refine mix3_off rfl rfl (mix3_norm (a' := ?_) ?_ ?_)); rotate_left; focus (simp only [Act.put, List.getElem_toArray, List.getElem_cons_zero, List.getElem_cons_succ, List.setIfInBounds_toArray, List.set_cons_zero, List.set_cons_succ]; rfl))
  refine mix3_eff rfl ?_
  simp only [List.getElem_toArray, List.getElem_cons_zero, List.getElem_cons_succ]
  go_wp2_with fail
  refine (text_any 1 (u64n x.l.length) (u64n_lt _) _).mono ?_
  rintro e w3 ⟨rfl, hb⟩
  have HG := Lib.hid ((hb.block _ (Array.getElem?_eq_some_iff.1 HG.out).1).trans HG.out)
  have HB := Lib.hid (HB.out.trans (hb.mono HB.out.size))
  go_wp2_with fail
  refine mixQ3_normal (KeepsBut.of_below hb) rfl ?_
  clear hb
  repeat ((first | (refine mix3_free (v := ?_) rfl rfl ?_ (mix3_norm (a' := ?_) ?_ ?_); rotate_left; focus (intro w'; go_simp; first | done | (with_reducible rfl))) | (refine mix3_pure (v := ?_) rfl rfl ?_ (mix3_norm (a' := ?_) ?_ ?_); rotate_left; focus (intro w' hR; go_simp; first | done | (with_reducible rfl))) | refine mix3_freeOff rfl rfl (mix3_norm (a' := ?_) ?_ ?_) | refine mix3_off rfl rfl (mix3_norm (a' := ?_) ?_ ?_)); rotate_left; focus (simp only [Act.put, List.getElem_toArray, List.getElem_cons_zero, List.getElem_cons_succ, List.setIfInBounds_toArray, List.set_cons_zero, List.set_cons_succ]; rfl))
  refine mix3_done ?_
  clear a1
  obtain ⟨d0, d1, d2, d3, d4, d5, d6, d7, d8, d9, d10⟩ := cells11 HG.out
  go_wp2_with fail
  refine (refNum2_any x.i _).mono ?_
  rw [bn]
  rintro e w' ⟨rfl, rfl⟩
  go_wp2_with fail
  go_loop [4, 5, 6] (fun s o i => ∃ (k : Nat) (q : Bool) (S : ByteArray), k ≤ x.l.length ∧ s = .string S ∧ o = .bool q ∧ i = .int .i64 k ∧ Hid (bl S = be 2 (u64n x.i) ++ be 1 (u64n x.l.length) ++ (x.l.take k).flatMap bl) ∧ Hid (q = (!numBad 2 x.i && decide (x.l.length ≤ 4) && (x.l.take k).all rightD))) (fun _ _ i => x.l.length - (intOf i).toNat)
  case atStart => exact ⟨0, _, _, by omega, rfl, rfl, rfl, Lib.hid (by rw [bl_append, t2b, t1b]; simp), Lib.hid (by rw [HO.out]; simp)⟩
  case round =>
    obtain ⟨k, q, S, hk, rfl, rfl, rfl, HS, HQ⟩ := hrel
    cases q with
    | false =>
      have HWt := Lib.hid (f4_bad HW.out HQ.out.symm)
      by_cases hlt : k < x.l.length
      all_goals
        go_wp2_with fail
        go_ret2
        exact ⟨S, by rw [HWt.out]; rfl, fun h => (by rw [HWt.out] at h; cases h), HB.out⟩
    | true =>
      by_cases hlt : k < x.l.length
      · obtain ⟨ad, rfl, hc⟩ := str_cell (Hr0.out.below HB.out) hlt
        have HS1 := Lib.hid (show bl (S ++ x.l[k]) = be 2 (u64n x.i) ++ be 1 (u64n x.l.length) ++ (x.l.take (k + 1)).flatMap bl by rw [bl_append, HS.out, flat_snoc _ hlt, List.append_assoc])
        have HQ1 := Lib.hid (show rightD x.l[k] = (!numBad 2 x.i && decide (x.l.length ≤ 4) && (x.l.take (k + 1)).all rightD) by rw [List.take_succ_eq_append_getElem hlt, List.all_append, ← Bool.and_assoc, ← HQ.out]; simp)
        have ha := addOk S x.l[k] (by
          have h := HBd.out; rw [HL.out] at h
          have h2 : (x.l.take (k + 1)).flatMap bl = (x.l.take k).flatMap bl ++ bl x.l[k] := flat_snoc _ hlt
          have h3 : (x.l.flatMap bl).length = ((x.l.take (k + 1)).flatMap bl).length + ((x.l.drop (k + 1)).flatMap bl).length := by rw [← List.length_append, ← List.flatMap_append, List.take_append_drop]
          have h4 := congrArg List.length HS.out
          rw [h2, List.length_append] at h3
          simp only [List.length_append, bl_length] at h h3 h4
          omega)
        generalize x.l[k] = y at hc ha HS1 HQ1
        have hl2 := HLl.out
        go_wp2_with fail
        refine (refDigRight_any y _).mono ?_
        rintro e w' ⟨rfl, rfl⟩
        go_wp2_with fail
        case roundEnd => exact ⟨⟨k + 1, _, _, by omega, rfl, rfl, by push_cast; rfl, HS1, HQ1⟩, by simp only [intOf]; omega⟩
      · obtain rfl : k = x.l.length := by omega
        have HWt := Lib.hid (f4_ok HW.out HQ.out.symm)
        go_wp2_with fail
        go_ret2
        exact ⟨S, by rw [HWt.out]; rfl, fun _ => by rw [HS.out, HL.out, List.take_length], HB.out⟩
set_option maxHeartbeats 4000000 in
set_option maxRecDepth 100000 in
theorem refBody4b (w : World) (x : Fr) (A : Option Addr) (c : Nat) (hr : Reads w 1 A x.l.length (sts x.l)) (hok : FrOk x) (hB : (bodyL x).length ≤ 100000000) (hl : x.l.length ≤ 2000000) (k1 : (x.k == 1) = false) (k2 : (x.k == 2) = false) (k3 : (x.k == 3) = false) (k5 : (x.k == 5) = false) (k4 : (x.k == 4) = true) (bn : numBad 2 x.i = false) (hl4 : x.l.length ≤ 4) :
    Calls Try.prog 72 #[.agg (x.cells A c)] w fun e w' => ∃ s, e = .returned (.tuple #[.string s, .bool (!bodyW x)]) ∧ (bodyW x = false → bl s = bodyL x) ∧ Below w.heap.size w w' := by
  obtain ⟨hb, hg, _⟩ := alloc1 w (x.cells A c) 58
  have Hr := Lib.hid (hr.below hb)
  have Hr0 := Lib.hid hr
  have wv := wrap64_nat hok.v64
  have HVl := Lib.hid hok.v64
  have wn := u64n_wrap x.n
  have wf := u64n_wrap x.f
  have wi := u64n_wrap x.i
  have wc := u64n_wrap x.c
  have wl := u64n_wrap ((x.l.length : Nat) : Int)
  have HLl := Lib.hid hl
  have HBd := Lib.hid hB
  unfold Fr.cells at hg hb Hr ⊢
  obtain ⟨d0, d1, d2, d3, d4, d5, d6, d7, d8, d9, d10⟩ := cells11 hg
  have HG := Lib.hid hg
  have HB := Lib.hid hb
  clear hr hok hl hg hb hB
  have hk : ¬ (x.k = 3 ∨ x.k = 5) := by simp only [beq_eq_false_iff_ne] at k3 k5; omega
  have HL := Lib.hid (show bodyL x = be 2 (u64n x.i) ++ be 1 (u64n x.l.length) ++ x.l.flatMap bl by unfold bodyL; rw [if_neg (by simpa using k1), if_neg (by simpa using k2), if_neg hk, if_pos (by simpa using k4)])
  have HW := Lib.hid (show bodyW x = (numBad 2 x.i || numBad 1 x.l.length || decide (4 < x.l.length) || x.l.any (fun s => !rightD s)) by unfold bodyW; rw [if_neg (by simpa using k1), if_neg (by simpa using k2), if_neg hk, if_pos (by simpa using k4)])
  clear hk
  have a1 := addOk (txt 2 (u64n x.i)) (txt 1 (u64n x.l.length)) (by have z2 := t2s (u64n x.i); have z1 := t1s (u64n x.l.length); omega)
  have HO := Lib.hid (show (!numBad 2 x.i && decide (x.l.length ≤ 4)) = true by rw [bn, decide_eq_true hl4]; rfl)
  have hd4 : decide ((x.l.length : Int) ≤ 4) = true := decide_eq_true (by omega)
  clear hl4
  go_enter Try.func72, Try.ntmps72
  go_wp2_with fail
  clear d0 d1 d2 d3 d4 d5 d6 d7 d8 d9 d10
  generalize (w.alloc (.cells #[.int .i64 x.k, .int .u64 (x.s : Int), .int .u64 (x.e : Int), .int .u32 (x.q : Int), .int .u32 (x.v : Int), .int .i64 x.n, .int .i64 x.f, .int .i64 x.i, .int .i64 x.c, .string x.d, .slice A x.l.length c] 58)) = w1 at HG HB Hr ⊢
  refine wp_region_mix3 (KeepsBut []) (KeepsBut.refl []) (KeepsBut.trans []) [] [(0, 0), (0, 4), (1, 1), (1, 2), (1, 5), (0, 6), (1, 7), (2, 3), (2, 8), (0, 9), (0, 10)] (by kernel_rfl) (by kernel_rfl) (fun d _ _ _ _ h => by cases d <;> exact h) ?_
  have HG := Lib.hid (show (w1.drew).heap[w.heap.size]? = _ from HG.out)
  have HB := Lib.hid HB.out.drew
  obtain ⟨d0, d1, d2, d3, d4, d5, d6, d7, d8, d9, d10⟩ := keeps11 (M := []) (w := w1.drew) HG.out (by simp)
  generalize w1.drew = wd at HG HB d0 d1 d2 d3 d4 d5 d6 d7 d8 d9 d10 ⊢
  repeat ((first | (refine mix3_free (v := ?_) rfl rfl ?_ (mix3_norm (a' := ?_) ?_ ?_); rotate_left; focus (intro w'; go_simp; first | done | (with_reducible rfl))) | (refine mix3_pure (v := ?_) rfl rfl ?_ (mix3_norm (a' := ?_) ?_ ?_); rotate_left; focus (intro w' hR; go_simp; first | done | (with_reducible rfl))) | refine mix3_freeOff rfl rfl (mix3_norm (a' := ?_) ?_ ?_) | refine mix3_off rfl rfl (mix3_norm (a' := ?_) ?_ ?_)); rotate_left; focus (simp only [Act.put, List.getElem_toArray, List.getElem_cons_zero, List.getElem_cons_succ, List.setIfInBounds_toArray, List.set_cons_zero, List.set_cons_succ]; rfl))
  clear d0 d1 d2 d3 d4 d5 d6 d7 d8 d9 d10
  refine mix3_eff rfl ?_
  simp only [List.getElem_toArray, List.getElem_cons_zero, List.getElem_cons_succ]
  go_wp2_with fail
  refine (text_any 2 (u64n x.i) (u64n_lt _) _).mono ?_
  rintro e w2 ⟨rfl, hb⟩
  have HG := Lib.hid ((hb.block _ (Array.getElem?_eq_some_iff.1 HG.out).1).trans HG.out)
  have HB := Lib.hid (HB.out.trans (hb.mono HB.out.size))
  go_wp2_with fail
  refine mixQ3_normal (KeepsBut.of_below hb) rfl ?_
  clear hb
  repeat ((first | (refine mix3_free (v := ?_) rfl rfl ?_ (mix3_norm (a' := ?_) ?_ ?_); rotate_left; focus (intro w'; go_simp; first | done | (with_reducible rfl))) | (refine mix3_pure (v := ?_) rfl rfl ?_ (mix3_norm (a' := ?_) ?_ ?_); rotate_left; focus (intro w' hR; go_simp; first | done | (with_reducible rfl))) | refine mix3_freeOff rfl rfl (mix3_norm (a' := ?_) ?_ ?_) | refine mix3_off rfl rfl (mix3_norm (a' := ?_) ?_ ?_)); rotate_left; focus (simp only [Act.put, List.getElem_toArray, List.getElem_cons_zero, List.getElem_cons_succ, List.setIfInBounds_toArray, List.set_cons_zero, List.set_cons_succ]; rfl))
  refine mix3_eff rfl ?_
  simp only [List.getElem_toArray, List.getElem_cons_zero, List.getElem_cons_succ]
  go_wp2_with fail
  refine (text_any 1 (u64n x.l.length) (u64n_lt _) _).mono ?_
  rintro e w3 ⟨rfl, hb⟩
  have HG := Lib.hid ((hb.block _ (Array.getElem?_eq_some_iff.1 HG.out).1).trans HG.out)
  have HB := Lib.hid (HB.out.trans (hb.mono HB.out.size))
  go_wp2_with fail
  refine mixQ3_normal (KeepsBut.of_below hb) rfl ?_
  clear hb
  repeat ((first | (refine mix3_free (v := ?_) rfl rfl ?_ (mix3_norm (a' := ?_) ?_ ?_); rotate_left; focus (intro w'; go_simp; first | done | (with_reducible rfl))) | (refine mix3_pure (v := ?_) rfl rfl ?_ (mix3_norm (a' := ?_) ?_ ?_); rotate_left; focus (intro w' hR; go_simp; first | done | (with_reducible rfl))) | refine mix3_freeOff rfl rfl (mix3_norm (a' := ?_) ?_ ?_) | refine mix3_off rfl rfl (mix3_norm (a' := ?_) ?_ ?_)); rotate_left; focus (simp only [Act.put, List.getElem_toArray, List.getElem_cons_zero, List.getElem_cons_succ, List.setIfInBounds_toArray, List.set_cons_zero, List.set_cons_succ]; rfl))
  refine mix3_done ?_
  clear a1
  obtain ⟨d0, d1, d2, d3, d4, d5, d6, d7, d8, d9, d10⟩ := cells11 HG.out
  go_wp2_with fail
  refine (refNum2_any x.i _).mono ?_
  rw [bn]
  rintro e w' ⟨rfl, rfl⟩
  go_wp2_with fail
  go_loop [4, 5, 6] (fun s o i => ∃ (k : Nat) (q : Bool) (S : ByteArray), k ≤ x.l.length ∧ s = .string S ∧ o = .bool q ∧ i = .int .i64 k ∧ Hid (bl S = be 2 (u64n x.i) ++ be 1 (u64n x.l.length) ++ (x.l.take k).flatMap bl) ∧ Hid (q = (!numBad 2 x.i && decide (x.l.length ≤ 4) && (x.l.take k).all rightD))) (fun _ _ i => x.l.length - (intOf i).toNat)
  case atStart => exact ⟨0, _, _, by omega, rfl, rfl, rfl, Lib.hid (by rw [bl_append, t2b, t1b]; simp), Lib.hid (by rw [HO.out]; simp)⟩
  case round =>
    obtain ⟨k, q, S, hk, rfl, rfl, rfl, HS, HQ⟩ := hrel
    cases q with
    | false =>
      have HWt := Lib.hid (f4_bad HW.out HQ.out.symm)
      by_cases hlt : k < x.l.length
      all_goals
        go_wp2_with fail
        go_ret2
        exact ⟨S, by rw [HWt.out]; rfl, fun h => (by rw [HWt.out] at h; cases h), HB.out⟩
    | true =>
      by_cases hlt : k < x.l.length
      · obtain ⟨ad, rfl, hc⟩ := str_cell (Hr0.out.below HB.out) hlt
        have HS1 := Lib.hid (show bl (S ++ x.l[k]) = be 2 (u64n x.i) ++ be 1 (u64n x.l.length) ++ (x.l.take (k + 1)).flatMap bl by rw [bl_append, HS.out, flat_snoc _ hlt, List.append_assoc])
        have HQ1 := Lib.hid (show rightD x.l[k] = (!numBad 2 x.i && decide (x.l.length ≤ 4) && (x.l.take (k + 1)).all rightD) by rw [List.take_succ_eq_append_getElem hlt, List.all_append, ← Bool.and_assoc, ← HQ.out]; simp)
        have ha := addOk S x.l[k] (by
          have h := HBd.out; rw [HL.out] at h
          have h2 : (x.l.take (k + 1)).flatMap bl = (x.l.take k).flatMap bl ++ bl x.l[k] := flat_snoc _ hlt
          have h3 : (x.l.flatMap bl).length = ((x.l.take (k + 1)).flatMap bl).length + ((x.l.drop (k + 1)).flatMap bl).length := by rw [← List.length_append, ← List.flatMap_append, List.take_append_drop]
          have h4 := congrArg List.length HS.out
          rw [h2, List.length_append] at h3
          simp only [List.length_append, bl_length] at h h3 h4
          omega)
        generalize x.l[k] = y at hc ha HS1 HQ1
        have hl2 := HLl.out
        go_wp2_with fail
        refine (refDigRight_any y _).mono ?_
        rintro e w' ⟨rfl, rfl⟩
        go_wp2_with fail
        case roundEnd => exact ⟨⟨k + 1, _, _, by omega, rfl, rfl, by push_cast; rfl, HS1, HQ1⟩, by simp only [intOf]; omega⟩
      · obtain rfl : k = x.l.length := by omega
        have HWt := Lib.hid (f4_ok HW.out HQ.out.symm)
        go_wp2_with fail
        go_ret2
        exact ⟨S, by rw [HWt.out]; rfl, fun _ => by rw [HS.out, HL.out, List.take_length], HB.out⟩
set_option maxHeartbeats 4000000 in
set_option maxRecDepth 100000 in
theorem refBody4c (w : World) (x : Fr) (A : Option Addr) (c : Nat) (hr : Reads w 1 A x.l.length (sts x.l)) (hok : FrOk x) (hB : (bodyL x).length ≤ 100000000) (hl : x.l.length ≤ 2000000) (k1 : (x.k == 1) = false) (k2 : (x.k == 2) = false) (k3 : (x.k == 3) = false) (k5 : (x.k == 5) = false) (k4 : (x.k == 4) = true) (bn : numBad 2 x.i = false) (hl4 : ¬ x.l.length ≤ 4) :
    Calls Try.prog 72 #[.agg (x.cells A c)] w fun e w' => ∃ s, e = .returned (.tuple #[.string s, .bool (!bodyW x)]) ∧ (bodyW x = false → bl s = bodyL x) ∧ Below w.heap.size w w' := by
  obtain ⟨hb, hg, _⟩ := alloc1 w (x.cells A c) 58
  have Hr := Lib.hid (hr.below hb)
  have Hr0 := Lib.hid hr
  have wv := wrap64_nat hok.v64
  have HVl := Lib.hid hok.v64
  have wn := u64n_wrap x.n
  have wf := u64n_wrap x.f
  have wi := u64n_wrap x.i
  have wc := u64n_wrap x.c
  have wl := u64n_wrap ((x.l.length : Nat) : Int)
  have HLl := Lib.hid hl
  have HBd := Lib.hid hB
  unfold Fr.cells at hg hb Hr ⊢
  obtain ⟨d0, d1, d2, d3, d4, d5, d6, d7, d8, d9, d10⟩ := cells11 hg
  have HG := Lib.hid hg
  have HB := Lib.hid hb
  clear hr hok hl hg hb hB
  have hk : ¬ (x.k = 3 ∨ x.k = 5) := by simp only [beq_eq_false_iff_ne] at k3 k5; omega
  have HL := Lib.hid (show bodyL x = be 2 (u64n x.i) ++ be 1 (u64n x.l.length) ++ x.l.flatMap bl by unfold bodyL; rw [if_neg (by simpa using k1), if_neg (by simpa using k2), if_neg hk, if_pos (by simpa using k4)])
  have HW := Lib.hid (show bodyW x = (numBad 2 x.i || numBad 1 x.l.length || decide (4 < x.l.length) || x.l.any (fun s => !rightD s)) by unfold bodyW; rw [if_neg (by simpa using k1), if_neg (by simpa using k2), if_neg hk, if_pos (by simpa using k4)])
  clear hk
  have a1 := addOk (txt 2 (u64n x.i)) (txt 1 (u64n x.l.length)) (by have z2 := t2s (u64n x.i); have z1 := t1s (u64n x.l.length); omega)
  have HO := Lib.hid (show (!numBad 2 x.i && decide (x.l.length ≤ 4)) = false by rw [bn, decide_eq_false hl4]; rfl)
  have hd4 : decide ((x.l.length : Int) ≤ 4) = false := decide_eq_false (by omega)
  clear hl4
  go_enter Try.func72, Try.ntmps72
  go_wp2_with fail
  clear d0 d1 d2 d3 d4 d5 d6 d7 d8 d9 d10
  generalize (w.alloc (.cells #[.int .i64 x.k, .int .u64 (x.s : Int), .int .u64 (x.e : Int), .int .u32 (x.q : Int), .int .u32 (x.v : Int), .int .i64 x.n, .int .i64 x.f, .int .i64 x.i, .int .i64 x.c, .string x.d, .slice A x.l.length c] 58)) = w1 at HG HB Hr ⊢
  refine wp_region_mix3 (KeepsBut []) (KeepsBut.refl []) (KeepsBut.trans []) [] [(0, 0), (0, 4), (1, 1), (1, 2), (1, 5), (0, 6), (1, 7), (2, 3), (2, 8), (0, 9), (0, 10)] (by kernel_rfl) (by kernel_rfl) (fun d _ _ _ _ h => by cases d <;> exact h) ?_
  have HG := Lib.hid (show (w1.drew).heap[w.heap.size]? = _ from HG.out)
  have HB := Lib.hid HB.out.drew
  obtain ⟨d0, d1, d2, d3, d4, d5, d6, d7, d8, d9, d10⟩ := keeps11 (M := []) (w := w1.drew) HG.out (by simp)
  generalize w1.drew = wd at HG HB d0 d1 d2 d3 d4 d5 d6 d7 d8 d9 d10 ⊢
  repeat ((first | (refine mix3_free (v := ?_) rfl rfl ?_ (mix3_norm (a' := ?_) ?_ ?_); rotate_left; focus (intro w'; go_simp; first | done | (with_reducible rfl))) | (refine mix3_pure (v := ?_) rfl rfl ?_ (mix3_norm (a' := ?_) ?_ ?_); rotate_left; focus (intro w' hR; go_simp; first | done | (with_reducible rfl))) | refine mix3_freeOff rfl rfl (mix3_norm (a' := ?_) ?_ ?_) | refine mix3_off rfl rfl (mix3_norm (a' := ?_) ?_ ?_)); rotate_left; focus (simp only [Act.put, List.getElem_toArray, List.getElem_cons_zero, List.getElem_cons_succ, List.setIfInBounds_toArray, List.set_cons_zero, List.set_cons_succ]; rfl))
  clear d0 d1 d2 d3 d4 d5 d6 d7 d8 d9 d10
  refine mix3_eff rfl ?_
  simp only [List.getElem_toArray, List.getElem_cons_zero, List.getElem_cons_succ]
  go_wp2_with fail
  refine (text_any 2 (u64n x.i) (u64n_lt _) _).mono ?_
  rintro e w2 ⟨rfl, hb⟩
  have HG := Lib.hid ((hb.block _ (Array.getElem?_eq_some_iff.1 HG.out).1).trans HG.out)
  have HB := Lib.hid (HB.out.trans (hb.mono HB.out.size))
  go_wp2_with fail
  refine mixQ3_normal (KeepsBut.of_below hb) rfl ?_
  clear hb
  repeat ((first | (refine mix3_free (v := ?_) rfl rfl ?_ (mix3_norm (a' := ?_) ?_ ?_); rotate_left; focus (intro w'; go_simp; first | done | (with_reducible rfl))) | (refine mix3_pure (v := ?_) rfl rfl ?_ (mix3_norm (a' := ?_) ?_ ?_); rotate_left; focus (intro w' hR; go_simp; first | done | (with_reducible rfl))) | refine mix3_freeOff rfl rfl (mix3_norm (a' := ?_) ?_ ?_) | refine mix3_off rfl rfl (mix3_norm (a' := ?_) ?_ ?_)); rotate_left; focus (simp only [Act.put, List.getElem_toArray, List.getElem_cons_zero, List.getElem_cons_succ, List.setIfInBounds_toArray, List.set_cons_zero, List.set_cons_succ]; rfl))
  refine mix3_eff rfl ?_
  simp only [List.getElem_toArray, List.getElem_cons_zero, List.getElem_cons_succ]
  go_wp2_with fail
  refine (text_any 1 (u64n x.l.length) (u64n_lt _) _).mono ?_
  rintro e w3 ⟨rfl, hb⟩
  have HG := Lib.hid ((hb.block _ (Array.getElem?_eq_some_iff.1 HG.out).1).trans HG.out)
  have HB := Lib.hid (HB.out.trans (hb.mono HB.out.size))
  go_wp2_with fail
  refine mixQ3_normal (KeepsBut.of_below hb) rfl ?_
  clear hb
  repeat ((first | (refine mix3_free (v := ?_) rfl rfl ?_ (mix3_norm (a' := ?_) ?_ ?_); rotate_left; focus (intro w'; go_simp; first | done | (with_reducible rfl))) | (refine mix3_pure (v := ?_) rfl rfl ?_ (mix3_norm (a' := ?_) ?_ ?_); rotate_left; focus (intro w' hR; go_simp; first | done | (with_reducible rfl))) | refine mix3_freeOff rfl rfl (mix3_norm (a' := ?_) ?_ ?_) | refine mix3_off rfl rfl (mix3_norm (a' := ?_) ?_ ?_)); rotate_left; focus (simp only [Act.put, List.getElem_toArray, List.getElem_cons_zero, List.getElem_cons_succ, List.setIfInBounds_toArray, List.set_cons_zero, List.set_cons_succ]; rfl))
  refine mix3_done ?_
  clear a1
  obtain ⟨d0, d1, d2, d3, d4, d5, d6, d7, d8, d9, d10⟩ := cells11 HG.out
  go_wp2_with fail
  refine (refNum2_any x.i _).mono ?_
  rw [bn]
  rintro e w' ⟨rfl, rfl⟩
  go_wp2_with fail
  go_loop [4, 5, 6] (fun s o i => ∃ (k : Nat) (q : Bool) (S : ByteArray), k ≤ x.l.length ∧ s = .string S ∧ o = .bool q ∧ i = .int .i64 k ∧ Hid (bl S = be 2 (u64n x.i) ++ be 1 (u64n x.l.length) ++ (x.l.take k).flatMap bl) ∧ Hid (q = (!numBad 2 x.i && decide (x.l.length ≤ 4) && (x.l.take k).all rightD))) (fun _ _ i => x.l.length - (intOf i).toNat)
  case atStart => exact ⟨0, _, _, by omega, rfl, rfl, rfl, Lib.hid (by rw [bl_append, t2b, t1b]; simp), Lib.hid (by rw [HO.out]; simp)⟩
  case round =>
    obtain ⟨k, q, S, hk, rfl, rfl, rfl, HS, HQ⟩ := hrel
    cases q with
    | false =>
      have HWt := Lib.hid (f4_bad HW.out HQ.out.symm)
      by_cases hlt : k < x.l.length
      all_goals
        go_wp2_with fail
        go_ret2
        exact ⟨S, by rw [HWt.out]; rfl, fun h => (by rw [HWt.out] at h; cases h), HB.out⟩
    | true =>
      by_cases hlt : k < x.l.length
      · obtain ⟨ad, rfl, hc⟩ := str_cell (Hr0.out.below HB.out) hlt
        have HS1 := Lib.hid (show bl (S ++ x.l[k]) = be 2 (u64n x.i) ++ be 1 (u64n x.l.length) ++ (x.l.take (k + 1)).flatMap bl by rw [bl_append, HS.out, flat_snoc _ hlt, List.append_assoc])
        have HQ1 := Lib.hid (show rightD x.l[k] = (!numBad 2 x.i && decide (x.l.length ≤ 4) && (x.l.take (k + 1)).all rightD) by rw [List.take_succ_eq_append_getElem hlt, List.all_append, ← Bool.and_assoc, ← HQ.out]; simp)
        have ha := addOk S x.l[k] (by
          have h := HBd.out; rw [HL.out] at h
          have h2 : (x.l.take (k + 1)).flatMap bl = (x.l.take k).flatMap bl ++ bl x.l[k] := flat_snoc _ hlt
          have h3 : (x.l.flatMap bl).length = ((x.l.take (k + 1)).flatMap bl).length + ((x.l.drop (k + 1)).flatMap bl).length := by rw [← List.length_append, ← List.flatMap_append, List.take_append_drop]
          have h4 := congrArg List.length HS.out
          rw [h2, List.length_append] at h3
          simp only [List.length_append, bl_length] at h h3 h4
          omega)
        generalize x.l[k] = y at hc ha HS1 HQ1
        have hl2 := HLl.out
        go_wp2_with fail
        refine (refDigRight_any y _).mono ?_
        rintro e w' ⟨rfl, rfl⟩
        go_wp2_with fail
        case roundEnd => exact ⟨⟨k + 1, _, _, by omega, rfl, rfl, by push_cast; rfl, HS1, HQ1⟩, by simp only [intOf]; omega⟩
      · obtain rfl : k = x.l.length := by omega
        have HWt := Lib.hid (f4_ok HW.out HQ.out.symm)
        go_wp2_with fail
        go_ret2
        exact ⟨S, by rw [HWt.out]; rfl, fun _ => by rw [HS.out, HL.out, List.take_length], HB.out⟩
set_option maxHeartbeats 4000000 in
set_option maxRecDepth 100000 in
theorem refBody6a (w : World) (x : Fr) (A : Option Addr) (c : Nat) (hr : Reads w 1 A x.l.length (sts x.l)) (hok : FrOk x) (hB : (bodyL x).length ≤ 100000000) (hl : x.l.length ≤ 2000000) (k1 : (x.k == 1) = false) (k2 : (x.k == 2) = false) (k3 : (x.k == 3) = false) (k5 : (x.k == 5) = false) (k4 : (x.k == 4) = false) (k6 : (x.k == 6) = true) (bn : numBad 2 x.i = true) :
    Calls Try.prog 72 #[.agg (x.cells A c)] w fun e w' => ∃ s, e = .returned (.tuple #[.string s, .bool (!bodyW x)]) ∧ (bodyW x = false → bl s = bodyL x) ∧ Below w.heap.size w w' := by
  obtain ⟨hb, hg, _⟩ := alloc1 w (x.cells A c) 58
  have Hr := Lib.hid (hr.below hb)
  have Hr0 := Lib.hid hr
  have wv := wrap64_nat hok.v64
  have HVl := Lib.hid hok.v64
  have wn := u64n_wrap x.n
  have wf := u64n_wrap x.f
  have wi := u64n_wrap x.i
  have wc := u64n_wrap x.c
  have wl := u64n_wrap ((x.l.length : Nat) : Int)
  have HLl := Lib.hid hl
  have HBd := Lib.hid hB
  unfold Fr.cells at hg hb Hr ⊢
  obtain ⟨d0, d1, d2, d3, d4, d5, d6, d7, d8, d9, d10⟩ := cells11 hg
  have HG := Lib.hid hg
  have HB := Lib.hid hb
  clear hr hok hl hg hb hB
  have hk : ¬ (x.k = 3 ∨ x.k = 5) := by simp only [beq_eq_false_iff_ne] at k3 k5; omega
  have HL := Lib.hid (show bodyL x = be 2 (u64n x.i) ++ bl x.d by unfold bodyL; rw [if_neg (by simpa using k1), if_neg (by simpa using k2), if_neg hk, if_neg (by simpa using k4), if_pos (by simpa using k6)])
  have HW := Lib.hid (show bodyW x = (numBad 2 x.i || !rightS x.d) by unfold bodyW; rw [if_neg (by simpa using k1), if_neg (by simpa using k2), if_neg hk, if_neg (by simpa using k4), if_pos (by simpa using k6)])
  clear hk
  have hsz : 2 + x.d.size ≤ 100000000 := by have h := HBd.out; rw [HL.out] at h; simp only [List.length_append, be_length, bl_length] at h; omega
  have z2 := t2s (u64n x.i)
  have a1 := addOk (txt 2 (u64n x.i)) x.d (by omega)
  clear hsz z2
  go_enter Try.func72, Try.ntmps72
  go_wp2_with fail
  clear d0 d1 d2 d3 d4 d5 d6 d7 d8 d9 d10
  generalize (w.alloc (.cells #[.int .i64 x.k, .int .u64 (x.s : Int), .int .u64 (x.e : Int), .int .u32 (x.q : Int), .int .u32 (x.v : Int), .int .i64 x.n, .int .i64 x.f, .int .i64 x.i, .int .i64 x.c, .string x.d, .slice A x.l.length c] 58)) = w1 at HG HB Hr ⊢
  refine wp_region_mix3 (KeepsBut []) (KeepsBut.refl []) (KeepsBut.trans []) [] [(0, 0), (0, 4), (0, 7), (1, 1), (1, 2), (1, 5), (1, 8), (2, 3), (0, 6), (2, 9), (0, 10), (0, 11), (1, 12), (2, 13), (0, 14), (0, 15), (0, 16)] (by kernel_rfl) (by kernel_rfl) (fun d _ _ _ _ h => by cases d <;> exact h) ?_
  have HG := Lib.hid (show (w1.drew).heap[w.heap.size]? = _ from HG.out)
  have HB := Lib.hid HB.out.drew
  obtain ⟨d0, d1, d2, d3, d4, d5, d6, d7, d8, d9, d10⟩ := keeps11 (M := []) (w := w1.drew) HG.out (by simp)
  generalize w1.drew = wd at HG HB d0 d1 d2 d3 d4 d5 d6 d7 d8 d9 d10 ⊢
  repeat ((first | (refine mix3_free (v := ?_) rfl rfl ?_ (mix3_norm (a' := ?_) ?_ ?_); rotate_left; focus (intro w'; go_simp; first | done | (with_reducible rfl))) | (refine mix3_pure (v := ?_) rfl rfl ?_ (mix3_norm (a' := ?_) ?_ ?_); rotate_left; focus (intro w' hR; go_simp; first | done | (with_reducible rfl))) | refine mix3_freeOff rfl rfl (mix3_norm (a' := ?_) ?_ ?_) | refine mix3_off rfl rfl (mix3_norm (a' := ?_) ?_ ?_)); rotate_left; focus (simp only [Act.put, List.getElem_toArray, List.getElem_cons_zero, List.getElem_cons_succ, List.setIfInBounds_toArray, List.set_cons_zero, List.set_cons_succ]; rfl))
  clear d0 d1 d2 d3 d4 d5 d6 d7 d8 d9 d10
  refine mix3_eff rfl ?_
  simp only [List.getElem_toArray, List.getElem_cons_zero, List.getElem_cons_succ]
  go_wp2_with fail
  refine (text_any 2 (u64n x.i) (u64n_lt _) _).mono ?_
  rintro e w2 ⟨rfl, hb⟩
  have HG := Lib.hid ((hb.block _ (Array.getElem?_eq_some_iff.1 HG.out).1).trans HG.out)
  have HB := Lib.hid (HB.out.trans (hb.mono HB.out.size))
  go_wp2_with fail
  refine mixQ3_normal (KeepsBut.of_below hb) rfl ?_
  clear hb
  repeat ((first | (refine mix3_free (v := ?_) rfl rfl ?_ (mix3_norm (a' := ?_) ?_ ?_); rotate_left; focus (intro w'; go_simp; first | done | (with_reducible rfl))) | (refine mix3_pure (v := ?_) rfl rfl ?_ (mix3_norm (a' := ?_) ?_ ?_); rotate_left; focus (intro w' hR; go_simp; first | done | (with_reducible rfl))) | refine mix3_freeOff rfl rfl (mix3_norm (a' := ?_) ?_ ?_) | refine mix3_off rfl rfl (mix3_norm (a' := ?_) ?_ ?_)); rotate_left; focus (simp only [Act.put, List.getElem_toArray, List.getElem_cons_zero, List.getElem_cons_succ, List.setIfInBounds_toArray, List.set_cons_zero, List.set_cons_succ]; rfl))
  refine mix3_eff rfl ?_
  simp only [List.getElem_toArray, List.getElem_cons_zero, List.getElem_cons_succ]
  go_wp2_with fail
  refine (refNum2_any x.i _).mono ?_
  rw [bn]
  rintro e w' ⟨rfl, rfl⟩
  go_wp2_with fail
  refine mixQ3_normal (KeepsBut.refl [] _) rfl ?_
  obtain ⟨d0, d1, d2, d3, d4, d5, d6, d7, d8, d9, d10⟩ := keeps11 (M := []) (w := w2) HG.out (by simp)
  repeat ((first | (refine mix3_free (v := ?_) rfl rfl ?_ (mix3_norm (a' := ?_) ?_ ?_); rotate_left; focus (intro w'; go_simp; first | done | (with_reducible rfl))) | (refine mix3_pure (v := ?_) rfl rfl ?_ (mix3_norm (a' := ?_) ?_ ?_); rotate_left; focus (intro w' hR; go_simp; first | done | (with_reducible rfl))) | refine mix3_freeOff rfl rfl (mix3_norm (a' := ?_) ?_ ?_) | refine mix3_off rfl rfl (mix3_norm (a' := ?_) ?_ ?_)); rotate_left; focus (simp only [Act.put, List.getElem_toArray, List.getElem_cons_zero, List.getElem_cons_succ, List.setIfInBounds_toArray, List.set_cons_zero, List.set_cons_succ]; rfl))
  clear d0 d1 d2 d3 d4 d5 d6 d7 d8 d9 d10
  refine mix3_skip (KeepsBut.refl []) rfl rfl (mix3_norm (a' := ?_) ?_ ?_)
  rotate_left
  focus (simp only [Act.put, List.getElem_toArray, List.getElem_cons_zero, List.getElem_cons_succ, List.setIfInBounds_toArray, List.set_cons_zero, List.set_cons_succ]; rfl)
  repeat ((first | (refine mix3_free (v := ?_) rfl rfl ?_ (mix3_norm (a' := ?_) ?_ ?_); rotate_left; focus (intro w'; go_simp; first | done | (with_reducible rfl))) | (refine mix3_pure (v := ?_) rfl rfl ?_ (mix3_norm (a' := ?_) ?_ ?_); rotate_left; focus (intro w' hR; go_simp; first | done | (with_reducible rfl))) | refine mix3_freeOff rfl rfl (mix3_norm (a' := ?_) ?_ ?_) | refine mix3_off rfl rfl (mix3_norm (a' := ?_) ?_ ?_)); rotate_left; focus (simp only [Act.put, List.getElem_toArray, List.getElem_cons_zero, List.getElem_cons_succ, List.setIfInBounds_toArray, List.set_cons_zero, List.set_cons_succ]; rfl))
  refine mix3_done ?_
  go_wp2_with fail
  go_ret2
  exact ⟨_, (by rw [HW.out, bn]; rfl), (fun h => by rw [HW.out, bn] at h; cases h), HB.out⟩
set_option maxHeartbeats 4000000 in
set_option maxRecDepth 100000 in
theorem refBody6b (w : World) (x : Fr) (A : Option Addr) (c : Nat) (hr : Reads w 1 A x.l.length (sts x.l)) (hok : FrOk x) (hB : (bodyL x).length ≤ 100000000) (hl : x.l.length ≤ 2000000) (k1 : (x.k == 1) = false) (k2 : (x.k == 2) = false) (k3 : (x.k == 3) = false) (k5 : (x.k == 5) = false) (k4 : (x.k == 4) = false) (k6 : (x.k == 6) = true) (bn : numBad 2 x.i = false) :
    Calls Try.prog 72 #[.agg (x.cells A c)] w fun e w' => ∃ s, e = .returned (.tuple #[.string s, .bool (!bodyW x)]) ∧ (bodyW x = false → bl s = bodyL x) ∧ Below w.heap.size w w' := by
  obtain ⟨hb, hg, _⟩ := alloc1 w (x.cells A c) 58
  have Hr := Lib.hid (hr.below hb)
  have Hr0 := Lib.hid hr
  have wv := wrap64_nat hok.v64
  have HVl := Lib.hid hok.v64
  have wn := u64n_wrap x.n
  have wf := u64n_wrap x.f
  have wi := u64n_wrap x.i
  have wc := u64n_wrap x.c
  have wl := u64n_wrap ((x.l.length : Nat) : Int)
  have HLl := Lib.hid hl
  have HBd := Lib.hid hB
  unfold Fr.cells at hg hb Hr ⊢
  obtain ⟨d0, d1, d2, d3, d4, d5, d6, d7, d8, d9, d10⟩ := cells11 hg
  have HG := Lib.hid hg
  have HB := Lib.hid hb
  clear hr hok hl hg hb hB
  have hk : ¬ (x.k = 3 ∨ x.k = 5) := by simp only [beq_eq_false_iff_ne] at k3 k5; omega
  have HL := Lib.hid (show bodyL x = be 2 (u64n x.i) ++ bl x.d by unfold bodyL; rw [if_neg (by simpa using k1), if_neg (by simpa using k2), if_neg hk, if_neg (by simpa using k4), if_pos (by simpa using k6)])
  have HW := Lib.hid (show bodyW x = (numBad 2 x.i || !rightS x.d) by unfold bodyW; rw [if_neg (by simpa using k1), if_neg (by simpa using k2), if_neg hk, if_neg (by simpa using k4), if_pos (by simpa using k6)])
  clear hk
  have hsz : 2 + x.d.size ≤ 100000000 := by have h := HBd.out; rw [HL.out] at h; simp only [List.length_append, be_length, bl_length] at h; omega
  have z2 := t2s (u64n x.i)
  have a1 := addOk (txt 2 (u64n x.i)) x.d (by omega)
  clear hsz z2
  go_enter Try.func72, Try.ntmps72
  go_wp2_with fail
  clear d0 d1 d2 d3 d4 d5 d6 d7 d8 d9 d10
  generalize (w.alloc (.cells #[.int .i64 x.k, .int .u64 (x.s : Int), .int .u64 (x.e : Int), .int .u32 (x.q : Int), .int .u32 (x.v : Int), .int .i64 x.n, .int .i64 x.f, .int .i64 x.i, .int .i64 x.c, .string x.d, .slice A x.l.length c] 58)) = w1 at HG HB Hr ⊢
  refine wp_region_mix3 (KeepsBut []) (KeepsBut.refl []) (KeepsBut.trans []) [] [(0, 0), (0, 4), (0, 7), (1, 1), (1, 2), (1, 5), (1, 8), (2, 3), (0, 6), (2, 9), (0, 10), (0, 11), (1, 12), (2, 13), (0, 14), (0, 15), (0, 16)] (by kernel_rfl) (by kernel_rfl) (fun d _ _ _ _ h => by cases d <;> exact h) ?_
  have HG := Lib.hid (show (w1.drew).heap[w.heap.size]? = _ from HG.out)
  have HB := Lib.hid HB.out.drew
  obtain ⟨d0, d1, d2, d3, d4, d5, d6, d7, d8, d9, d10⟩ := keeps11 (M := []) (w := w1.drew) HG.out (by simp)
  generalize w1.drew = wd at HG HB d0 d1 d2 d3 d4 d5 d6 d7 d8 d9 d10 ⊢
  repeat ((first | (refine mix3_free (v := ?_) rfl rfl ?_ (mix3_norm (a' := ?_) ?_ ?_); rotate_left; focus (intro w'; go_simp; first | done | (with_reducible rfl))) | (refine mix3_pure (v := ?_) rfl rfl ?_ (mix3_norm (a' := ?_) ?_ ?_); rotate_left; focus (intro w' hR; go_simp; first | done | (with_reducible rfl))) | refine mix3_freeOff rfl rfl (mix3_norm (a' := ?_) ?_ ?_) | refine mix3_off rfl rfl (mix3_norm (a' := ?_) ?_ ?_)); rotate_left; focus (simp only [Act.put, List.getElem_toArray, List.getElem_cons_zero, List.getElem_cons_succ, List.setIfInBounds_toArray, List.set_cons_zero, List.set_cons_succ]; rfl))
  clear d0 d1 d2 d3 d4 d5 d6 d7 d8 d9 d10
  refine mix3_eff rfl ?_
  simp only [List.getElem_toArray, List.getElem_cons_zero, List.getElem_cons_succ]
  go_wp2_with fail
  refine (text_any 2 (u64n x.i) (u64n_lt _) _).mono ?_
  rintro e w2 ⟨rfl, hb⟩
  have HG := Lib.hid ((hb.block _ (Array.getElem?_eq_some_iff.1 HG.out).1).trans HG.out)
  have HB := Lib.hid (HB.out.trans (hb.mono HB.out.size))
  go_wp2_with fail
  refine mixQ3_normal (KeepsBut.of_below hb) rfl ?_
  clear hb
  repeat ((first | (refine mix3_free (v := ?_) rfl rfl ?_ (mix3_norm (a' := ?_) ?_ ?_); rotate_left; focus (intro w'; go_simp; first | done | (with_reducible rfl))) | (refine mix3_pure (v := ?_) rfl rfl ?_ (mix3_norm (a' := ?_) ?_ ?_); rotate_left; focus (intro w' hR; go_simp; first | done | (with_reducible rfl))) | refine mix3_freeOff rfl rfl (mix3_norm (a' := ?_) ?_ ?_) | refine mix3_off rfl rfl (mix3_norm (a' := ?_) ?_ ?_)); rotate_left; focus (simp only [Act.put, List.getElem_toArray, List.getElem_cons_zero, List.getElem_cons_succ, List.setIfInBounds_toArray, List.set_cons_zero, List.set_cons_succ]; rfl))
  refine mix3_eff rfl ?_
  simp only [List.getElem_toArray, List.getElem_cons_zero, List.getElem_cons_succ]
  go_wp2_with fail
  refine (refNum2_any x.i _).mono ?_
  rw [bn]
  rintro e w' ⟨rfl, rfl⟩
  go_wp2_with fail
  refine mixQ3_normal (KeepsBut.refl [] _) rfl ?_
  obtain ⟨d0, d1, d2, d3, d4, d5, d6, d7, d8, d9, d10⟩ := keeps11 (M := []) (w := w2) HG.out (by simp)
  repeat ((first | (refine mix3_free (v := ?_) rfl rfl ?_ (mix3_norm (a' := ?_) ?_ ?_); rotate_left; focus (intro w'; go_simp; first | done | (with_reducible rfl))) | (refine mix3_pure (v := ?_) rfl rfl ?_ (mix3_norm (a' := ?_) ?_ ?_); rotate_left; focus (intro w' hR; go_simp; first | done | (with_reducible rfl))) | refine mix3_freeOff rfl rfl (mix3_norm (a' := ?_) ?_ ?_) | refine mix3_off rfl rfl (mix3_norm (a' := ?_) ?_ ?_)); rotate_left; focus (simp only [Act.put, List.getElem_toArray, List.getElem_cons_zero, List.getElem_cons_succ, List.setIfInBounds_toArray, List.set_cons_zero, List.set_cons_succ]; rfl))
  clear d0 d1 d2 d3 d4 d5 d6 d7 d8 d9 d10
  refine mix3_eff rfl ?_
  simp only [List.getElem_toArray, List.getElem_cons_zero, List.getElem_cons_succ]
  go_wp2_with fail
  refine (refSecRight_any x.d _).mono ?_
  rintro e w' ⟨rfl, rfl⟩
  go_wp2_with fail
  refine mixQ3_normal (KeepsBut.refl [] _) rfl ?_
  repeat ((first | (refine mix3_free (v := ?_) rfl rfl ?_ (mix3_norm (a' := ?_) ?_ ?_); rotate_left; focus (intro w'; go_simp; first | done | (with_reducible rfl))) | (refine mix3_pure (v := ?_) rfl rfl ?_ (mix3_norm (a' := ?_) ?_ ?_); rotate_left; focus (intro w' hR; go_simp; first | done | (with_reducible rfl))) | refine mix3_freeOff rfl rfl (mix3_norm (a' := ?_) ?_ ?_) | refine mix3_off rfl rfl (mix3_norm (a' := ?_) ?_ ?_)); rotate_left; focus (simp only [Act.put, List.getElem_toArray, List.getElem_cons_zero, List.getElem_cons_succ, List.setIfInBounds_toArray, List.set_cons_zero, List.set_cons_succ]; rfl))
  refine mix3_done ?_
  go_wp2_with fail
  go_ret2
  exact ⟨txt 2 (u64n x.i) ++ x.d, (by rw [HW.out, bn]; simp), (fun _ => by rw [HL.out, bl_append, t2b]), HB.out⟩
set_option maxHeartbeats 4000000 in
set_option maxRecDepth 100000 in
theorem refBody7 (w : World) (x : Fr) (A : Option Addr) (c : Nat) (hr : Reads w 1 A x.l.length (sts x.l)) (hok : FrOk x) (hB : (bodyL x).length ≤ 100000000) (hl : x.l.length ≤ 2000000) (k1 : (x.k == 1) = false) (k2 : (x.k == 2) = false) (k3 : (x.k == 3) = false) (k5 : (x.k == 5) = false) (k4 : (x.k == 4) = false) (k6 : (x.k == 6) = false) (k7 : (x.k == 7) = true) :
    Calls Try.prog 72 #[.agg (x.cells A c)] w fun e w' => ∃ s, e = .returned (.tuple #[.string s, .bool (!bodyW x)]) ∧ (bodyW x = false → bl s = bodyL x) ∧ Below w.heap.size w w' := by
  obtain ⟨hb, hg, _⟩ := alloc1 w (x.cells A c) 58
  have Hr := Lib.hid (hr.below hb)
  have Hr0 := Lib.hid hr
  have wv := wrap64_nat hok.v64
  have HVl := Lib.hid hok.v64
  have wn := u64n_wrap x.n
  have wf := u64n_wrap x.f
  have wi := u64n_wrap x.i
  have wc := u64n_wrap x.c
  have wl := u64n_wrap ((x.l.length : Nat) : Int)
  have HLl := Lib.hid hl
  have HBd := Lib.hid hB
  unfold Fr.cells at hg hb Hr ⊢
  obtain ⟨d0, d1, d2, d3, d4, d5, d6, d7, d8, d9, d10⟩ := cells11 hg
  have HG := Lib.hid hg
  have HB := Lib.hid hb
  clear hr hok hl hg hb hB
  have hk : ¬ (x.k = 3 ∨ x.k = 5) := by simp only [beq_eq_false_iff_ne] at k3 k5; omega
  have HL := Lib.hid (show bodyL x = [] by unfold bodyL; rw [if_neg (by simpa using k1), if_neg (by simpa using k2), if_neg hk, if_neg (by simpa using k4), if_neg (by simpa using k6)])
  have HW := Lib.hid (show bodyW x = false by unfold bodyW; rw [if_neg (by simpa using k1), if_neg (by simpa using k2), if_neg hk, if_neg (by simpa using k4), if_neg (by simpa using k6)]; simpa using k7)
  clear hk
  go_enter Try.func72, Try.ntmps72
  go_wp2_with fail
  clear d0 d1 d2 d3 d4 d5 d6 d7 d8 d9 d10
  generalize (w.alloc (.cells #[.int .i64 x.k, .int .u64 (x.s : Int), .int .u64 (x.e : Int), .int .u32 (x.q : Int), .int .u32 (x.v : Int), .int .i64 x.n, .int .i64 x.f, .int .i64 x.i, .int .i64 x.c, .string x.d, .slice A x.l.length c] 58)) = w1 at HG HB Hr ⊢
  go_ret2
  exact ⟨⟨#[]⟩, (by rw [HW.out]; rfl), (fun _ => by rw [HL.out]; rfl), HB.out⟩
set_option maxHeartbeats 4000000 in
set_option maxRecDepth 100000 in
theorem refBodyX (w : World) (x : Fr) (A : Option Addr) (c : Nat) (hr : Reads w 1 A x.l.length (sts x.l)) (hok : FrOk x) (hB : (bodyL x).length ≤ 100000000) (hl : x.l.length ≤ 2000000) (k1 : (x.k == 1) = false) (k2 : (x.k == 2) = false) (k3 : (x.k == 3) = false) (k5 : (x.k == 5) = false) (k4 : (x.k == 4) = false) (k6 : (x.k == 6) = false) (k7 : (x.k == 7) = false) :
    Calls Try.prog 72 #[.agg (x.cells A c)] w fun e w' => ∃ s, e = .returned (.tuple #[.string s, .bool (!bodyW x)]) ∧ (bodyW x = false → bl s = bodyL x) ∧ Below w.heap.size w w' := by
  obtain ⟨hb, hg, _⟩ := alloc1 w (x.cells A c) 58
  have Hr := Lib.hid (hr.below hb)
  have Hr0 := Lib.hid hr
  have wv := wrap64_nat hok.v64
  have HVl := Lib.hid hok.v64
  have wn := u64n_wrap x.n
  have wf := u64n_wrap x.f
  have wi := u64n_wrap x.i
  have wc := u64n_wrap x.c
  have wl := u64n_wrap ((x.l.length : Nat) : Int)
  have HLl := Lib.hid hl
  have HBd := Lib.hid hB
  unfold Fr.cells at hg hb Hr ⊢
  obtain ⟨d0, d1, d2, d3, d4, d5, d6, d7, d8, d9, d10⟩ := cells11 hg
  have HG := Lib.hid hg
  have HB := Lib.hid hb
  clear hr hok hl hg hb hB
  have hk : ¬ (x.k = 3 ∨ x.k = 5) := by simp only [beq_eq_false_iff_ne] at k3 k5; omega
  have HW := Lib.hid (show bodyW x = true by unfold bodyW; rw [if_neg (by simpa using k1), if_neg (by simpa using k2), if_neg hk, if_neg (by simpa using k4), if_neg (by simpa using k6)]; simpa using k7)
  clear hk
  go_enter Try.func72, Try.ntmps72
  go_wp2_with fail
  clear d0 d1 d2 d3 d4 d5 d6 d7 d8 d9 d10
  generalize (w.alloc (.cells #[.int .i64 x.k, .int .u64 (x.s : Int), .int .u64 (x.e : Int), .int .u32 (x.q : Int), .int .u32 (x.v : Int), .int .i64 x.n, .int .i64 x.f, .int .i64 x.i, .int .i64 x.c, .string x.d, .slice A x.l.length c] 58)) = w1 at HG HB Hr ⊢
  go_ret2
  exact ⟨⟨#[]⟩, (by rw [HW.out]; rfl), (fun h => by rw [HW.out] at h; cases h), HB.out⟩
theorem refBody_any (w : World) (x : Fr) (A : Option Addr) (c : Nat) (hr : Reads w 1 A x.l.length (sts x.l)) (hok : FrOk x) (hB : (bodyL x).length ≤ 100000000) (hl : x.l.length ≤ 2000000) :
    Calls Try.prog 72 #[.agg (x.cells A c)] w fun e w' => ∃ s, e = .returned (.tuple #[.string s, .bool (!bodyW x)]) ∧ (bodyW x = false → bl s = bodyL x) ∧ Below w.heap.size w w' := by
  cases k1 : (x.k == 1) with
  | true =>
    cases bn : numBad 2 x.n with
    | true => exact refBody1a w x A c hr hok hB hl k1 bn
    | false =>
      cases bf : numBad 1 x.f with
      | true => exact refBody1b w x A c hr hok hB hl k1 bn bf
      | false => exact refBody1c w x A c hr hok hB hl k1 bn bf
  | false =>
    cases k2 : (x.k == 2) with
    | true => exact refBody2 w x A c hr hok hB hl k1 k2
    | false =>
      cases k3 : (x.k == 3) with
      | true => exact refBody3 w x A c hr hok hB hl k1 k2 k3
      | false =>
        cases k5 : (x.k == 5) with
        | true => exact refBody5 w x A c hr hok hB hl k1 k2 k3 k5
        | false =>
          cases k4 : (x.k == 4) with
          | true =>
            cases bn : numBad 2 x.i with
            | true => exact refBody4a w x A c hr hok hB hl k1 k2 k3 k5 k4 bn
            | false =>
              by_cases hl4 : x.l.length ≤ 4
              · exact refBody4b w x A c hr hok hB hl k1 k2 k3 k5 k4 bn hl4
              · exact refBody4c w x A c hr hok hB hl k1 k2 k3 k5 k4 bn hl4
          | false =>
            cases k6 : (x.k == 6) with
            | true =>
              cases bn : numBad 2 x.i with
              | true => exact refBody6a w x A c hr hok hB hl k1 k2 k3 k5 k4 k6 bn
              | false => exact refBody6b w x A c hr hok hB hl k1 k2 k3 k5 k4 k6 bn
            | false =>
              cases k7 : (x.k == 7) with
              | true => exact refBody7 w x A c hr hok hB hl k1 k2 k3 k5 k4 k6 k7
              | false => exact refBodyX w x A c hr hok hB hl k1 k2 k3 k5 k4 k6 k7
end Go.Proofs.Ytebcginnnjigjaa
