/- A past of the document's: what a sector has last, what it may have; one is written. -/
import Derived.Test.YtiolfnnkkflaiaaRPast1
open Go.RowKit
namespace Go.Proofs.Ytiolfnnkkflaiaa
section
variable {w : World} {g : Nat} {A : Option Addr} {b c : Nat} {T : List TR} {E B : Option Addr} {ce d : Nat} {I : List IM}
set_option maxRecDepth 100000 in
theorem refLast_any (h : RPM w g A c T E ce B d I) (hlen : ∀ k (hk : k < T.length), T[k].xs.length ≤ 100000) (i : Int) : Calls Try.prog 56 #[.pointer (some ⟨g, 0, none⟩), .int .i64 i] w fun e w' => e = .returned (.tuple #[.string (lastP (texts T) i), .int .i64 (hasP T.length i : Nat)]) ∧ w = w' := by
  have HH := Lib.hid (refIn_any h i)
  obtain ⟨c0, _⟩ := cells3 h.cell
  by_cases hin : inP T.length i
  · rw [decide_eq_true hin] at HH
    rw [hasP_in hin]
    obtain ⟨k, hk, rfl⟩ := inP_nat hin
    obtain ⟨b, rfl, hb, d0, _⟩ := h.tab.cell hk
    obtain ⟨j, hj, hjl, e0⟩ := (h.tab.lies k hk).last
    rw [lastP_at hk hj]
    have hl := hlen k hk
    have hkI : (k : Int) < (T.length : Int) := by omega
    unfold TR.v at d0
    generalize T[k].xs[j] = s at e0 ⊢
    generalize T[k] = t at d0 hj hjl e0 hl
    have ew : IntKind.i64.wrap ((t.xs.length : Int) - 1) = (j : Int) := by rw [IntWalk.i64_in ((t.xs.length : Int) - 1) ⟨by omega, by omega⟩]; omega
    have hjI : (j : Int) < (t.xs.length : Int) := by omega
    clear h hin hj
    go_enter Try.func56, Try.ntmps56
    go_wp2_with fail
    refine HH.out.mono ?_
    rintro e w1 ⟨rfl, rfl⟩
    go_wp2_with fail
    go_ret2
    exact ⟨rfl, rfl⟩
  · rw [decide_eq_false hin] at HH
    rw [hasP_out hin]
    have HL := Lib.hid (show lastP (texts T) i = ⟨#[]⟩ by unfold lastP; rw [if_neg (by rw [texts_length]; exact hin)])
    clear h hin
    go_enter Try.func56, Try.ntmps56
    go_wp2_with fail
    refine HH.out.mono ?_
    rintro e w1 ⟨rfl, rfl⟩
    go_wp2_with fail
    go_ret2
    exact ⟨by rw [HL.out]; rfl, rfl⟩

theorem hasS_end (l : List ByteArray) (s : ByteArray) : hasS (l.drop l.length) s = false := by rw [List.drop_length]; rfl
set_option maxHeartbeats 1000000 in
set_option maxRecDepth 100000 in
theorem refHas_any (h : RPM w g A c T E ce B d I) (hlen : ∀ k (hk : k < T.length), T[k].xs.length ≤ 100000) (i : Int) (s : ByteArray) : Calls Try.prog 59 #[.pointer (some ⟨g, 0, none⟩), .int .i64 i, .string s] w fun e w' => e = .returned (.bool (mayP (texts T) i s)) ∧ w = w' := by
  have HH := Lib.hid (refIn_any h i)
  obtain ⟨c0, _⟩ := cells3 h.cell
  by_cases hin : inP T.length i
  · rw [decide_eq_true hin] at HH
    have HL := Lib.hid (show mayP (texts T) i s = hasS ((texts T).getD i.toNat []) s by unfold mayP; rw [texts_length, decide_eq_true hin, Bool.true_and])
    obtain ⟨k, hk, rfl⟩ := inP_nat hin
    rw [Int.toNat_natCast, texts_get T k hk] at HL
    obtain ⟨b, rfl, hb, d0, _⟩ := h.tab.cell hk
    have Hr := Lib.hid (h.tab.lies k hk).rd
    have hl := hlen k hk
    have hkI : (k : Int) < (T.length : Int) := by omega
    unfold TR.v at d0
    generalize T[k] = t at *
    clear h hin
    go_enter Try.func59, Try.ntmps59
    go_wp2_with fail
    refine HH.out.mono ?_
    rintro e w1 ⟨rfl, rfl⟩
    go_wp2_with fail
    go_loopw [7] (fun v wr => ∃ j : Nat, j ≤ t.xs.length ∧ v = .int .i64 j ∧ Hid (hasS (t.xs.drop j) s = hasS t.xs s) ∧ w = wr) (fun v _ => t.xs.length - (intOf v).toNat)
    case atStart => exact ⟨0, Nat.zero_le _, rfl, Lib.hid rfl, rfl⟩
    case round =>
      obtain ⟨j, hj, rfl, HO, rfl⟩ := hrel
      by_cases hlt : j < t.xs.length
      · have d1 := Hr.out j hlt
        rw [drop_at hlt, hasS_cons] at HO
        generalize t.xs[j] = x at d1 HO
        have hjI : (j : Int) < (t.xs.length : Int) := by omega
        cases h3 : (x.toList == s.toList) with
        | true =>
          have h4 : (s.toList == x.toList) = true := by rw [beq_iff_eq] at h3 ⊢; exact h3.symm
          rw [h4, Bool.true_or] at HO
          clear h4
          go_wp2_with fail
          go_ret
          exact ⟨by rw [HL.out, ← HO.out]; rfl, rfl⟩
        | false =>
          have h4 : (s.toList == x.toList) = false := by rw [beq_eq_false_iff_ne] at h3 ⊢; exact fun e => h3 e.symm
          rw [h4, Bool.false_or] at HO
          clear h4
          go_wp2_with fail
          case roundEnd =>
            exact ⟨⟨j + 1, by omega, by push_cast; rfl, HO, trivial⟩, by simp only [intOf]; omega⟩
      · obtain rfl : j = t.xs.length := by omega
        go_wp2_with fail
        go_ret
        exact ⟨by rw [HL.out, ← HO.out, hasS_end]; rfl, rfl⟩
  · rw [decide_eq_false hin] at HH
    have HL := Lib.hid (show mayP (texts T) i s = false by unfold mayP; rw [texts_length, decide_eq_false hin]; rfl)
    clear h hin
    go_enter Try.func59, Try.ntmps59
    go_wp2_with fail
    refine HH.out.mono ?_
    rintro e w1 ⟨rfl, rfl⟩
    go_wp2_with fail
    go_ret
    exact ⟨by rw [HL.out]; rfl, rfl⟩

set_option maxHeartbeats 2000000 in
set_option maxRecDepth 100000 in
theorem refWrite_any (h : RPM w g A c T E ce B d I) (hlen : ∀ k (hk : k < T.length), T[k].xs.length + 1 ≤ 100000) (i : Int) (s : ByteArray) :
    Calls Try.prog 51 #[.pointer (some ⟨g, 0, none⟩), .int .i64 i, .string s] w fun e w' => e = .returned (.int .i64 (writeE (texts T) i s : Nat)) ∧
      ∃ T', RPD w g A c T E ce B d I w' T' ∧ texts T' = writeM (texts T) i s := by
  have HH := Lib.hid (refIn_any h i)
  by_cases hin : inP T.length i
  · rw [decide_eq_true hin] at HH
    have HS := Lib.hid (refSecRight_any s w)
    cases hs : rightS s with
    | false =>
      rw [hs] at HS
      have HE := Lib.hid (show writeE (texts T) i s = 4 ∧ writeM (texts T) i s = texts T from ⟨by unfold writeE; rw [texts_length, if_pos hin, if_neg (by rw [hs]; simp)], by unfold writeM; rw [if_neg (by rw [hs]; simp)]⟩)
      have Hp := Lib.hid h
      clear h hin hs
      go_enter Try.func51, Try.ntmps51
      go_wp2_with fail
      refine HH.out.mono ?_
      rintro e w1 ⟨rfl, rfl⟩
      go_wp2_with fail
      refine HS.out.mono ?_
      rintro e w1 ⟨rfl, rfl⟩
      go_wp2_with fail
      go_ret
      exact ⟨by rw [HE.out.1]; rfl, T, RPD.refl Hp.out, HE.out.2.symm⟩
    | true =>
      rw [hs] at HS
      obtain ⟨k, hk, rfl⟩ := inP_nat hin
      have HE := Lib.hid (show writeE (texts T) k s = 0 ∧ writeM (texts T) k s = (texts T).set k (T[k].xs ++ [s]) from ⟨by unfold writeE; rw [texts_length, if_pos hin, if_pos hs], by unfold writeM; rw [texts_length, if_pos ⟨hin, hs⟩, Int.toNat_natCast, texts_get T k hk]⟩)
      obtain ⟨b, rfl, hb, d0, _⟩ := h.tab.cell hk
      obtain ⟨c0, _⟩ := cells3 h.cell
      have hkI : (k : Int) < (T.length : Int) := by omega
      have hl := Lib.hid (hlen k hk)
      have Hp := Lib.hid h
      have HT := Lib.hid (h.tab.lies k hk)
      have Hsep := Lib.hid (show b ≠ T[k].b ∧ g ≠ T[k].b from ⟨fun e => h.tab.sep k hk (by rw [← e]; rfl), fun e => h.s1 (.inr ⟨k, hk, e.symm⟩)⟩)
      have d0 : w.cell? ⟨b, k, none⟩ = some (.slice (some ⟨T[k].b, T[k].o, none⟩) T[k].xs.length T[k].c) := d0
      clear h hin hs
      go_enter Try.func51, Try.ntmps51
      go_wp2_with fail
      refine HH.out.mono ?_
      rintro e w1 ⟨rfl, rfl⟩
      go_wp2_with fail
      refine HS.out.mono ?_
      rintro e w1 ⟨rfl, rfl⟩
      go_wp2_with fail
      have q0 := fun w' (hk : KeepQ (fun i => i = T[k].b) w.drew w') => hk.cell (p := ⟨g, 0, none⟩) c0 Hsep.out.2
      have q1 := fun w' (hk : KeepQ (fun i => i = T[k].b) w.drew w') => hk.cell (p := ⟨b, k, none⟩) d0 Hsep.out.1
      refine wp_region_mix3 (KeepQ (fun i => i = T[k].b)) (KeepQ.refl (fun i => i = T[k].b)) (KeepQ.trans (fun i => i = T[k].b)) [16] [(0, 0), (0, 1), (0, 2), (0, 4), (0, 5), (0, 6), (0, 7), (0, 9), (0, 12), (1, 3), (1, 8), (0, 10), (1, 11), (2, 13), (2, 14), (0, 15), (2, 16)] (by kernel_rfl) (by kernel_rfl) (fun d _ _ _ _ h => by cases d <;> exact h) ?_
      repeat (first
        | (refine mix3_free (v := ?_) rfl rfl ?_ (mix3_norm (a' := ?_) ?_ ?_)
           rotate_left
           focus (intro w'; go_simp; first | done | (with_reducible rfl))
           rotate_left
           focus (simp only [Act.put, List.getElem_toArray, List.getElem_cons_zero, List.getElem_cons_succ, List.setIfInBounds_toArray, List.set_cons_zero, List.set_cons_succ]; rfl))
        | (refine mix3_pure (v := ?_) rfl rfl ?_ (mix3_norm (a' := ?_) ?_ ?_)
           rotate_left
           focus (intro w' hR; go_simp; first | done | (with_reducible rfl))
           rotate_left
           focus (simp only [Act.put, List.getElem_toArray, List.getElem_cons_zero, List.getElem_cons_succ, List.setIfInBounds_toArray, List.set_cons_zero, List.set_cons_succ]; rfl))
        | (refine mix3_freeOff rfl rfl (mix3_norm (a' := ?_) ?_ ?_)
           rotate_left
           focus (simp only [Act.put, List.getElem_toArray, List.getElem_cons_zero, List.getElem_cons_succ, List.setIfInBounds_toArray, List.set_cons_zero, List.set_cons_succ]; rfl))
        | (refine mix3_off rfl rfl (mix3_norm (a' := ?_) ?_ ?_)
           rotate_left
           focus (simp only [Act.put, List.getElem_toArray, List.getElem_cons_zero, List.getElem_cons_succ, List.setIfInBounds_toArray, List.set_cons_zero, List.set_cons_succ]; rfl)))
      clear q0 q1 c0 d0
      refine mix3_eff rfl ?_
      simp only [List.getElem_toArray, List.getElem_cons_zero, List.getElem_cons_succ]
      go_wp2_with fail
      refine mixQ3_normal ⟨by show w.heap.size ≤ (w.heap.push _).size; rw [Array.size_push]; omega, fun i hi _ => heap_alloc_old w _ hi⟩ rfl ?_
      refine mix3_eff rfl ?_
      simp only [List.getElem_toArray, List.getElem_cons_zero, List.getElem_cons_succ]
      have hb3 : Below w.heap.size w (w.alloc (.cells #[.string s] 9)).drew := ((Below.refl w.heap.size w).alloc (Nat.le_refl _) _).drew
      have HT3 := Lib.hid (HT.out.chg (F := fun _ => False) (.of_below hb3) (fun f => f))
      have hg3 : (w.alloc (.cells #[.string s] 9)).drew.cell? ⟨w.heap.size, 0, none⟩ = some (.string s) := (cells1 (heap_alloc_new w _)).1
      refine wpList_append_tr rfl (.tmp 25) (.tmp 27) rfl T[k] rfl HT3.out s w.heap.size rfl hg3 hl.out ?_
      intro t1 w4 hxs ht1 hc4 hb4
      have hC : Chg (fun i => i = T[k].b) w w4 := (Chg.of_below (F := fun i => i = T[k].b) hb3).trans hc4 (fun _ _ h => h)
      have hM := (RPD.refl Hp.out).set hk hC ht1 (hb4.imp id (fun e => by rw [e]; exact hb3.size))
      have Hk4 := Lib.hid (KeepQ.of_chg hc4 (fun _ _ h => h))
      have hrow4 := ownsRow_chg Hp.out.tab.row hC (fun i hi e => Hsep.out.1 (by have := Option.some.inj hi; simp only at this; rw [this, e]))
      have f5 := World.ownsRow.frozenAt hrow4 k
      obtain ⟨u5, d5⟩ : ∃ u, w4.cell? ⟨b, k, none⟩ = some u := ⟨_, by rw [World.ownsRow.cellAt hrow4 k (by omega)]; exact tvs_get T k hk⟩
      have HM := Lib.hid hM
      have Hxs := Lib.hid (show texts (T.set k t1) = (texts T).set k (T[k].xs ++ [s]) by rw [texts_set, hxs])
      clear hM hC hc4 hb4 ht1 hb3 hg3 hrow4 hxs
      unfold TR.v at HM ⊢
      go_wp2_with fail
      refine mixQ3_normal Hk4.out rfl ?_
      repeat (first
        | (refine mix3_free (v := ?_) rfl rfl ?_ (mix3_norm (a' := ?_) ?_ ?_)
           rotate_left
           focus (intro w'; go_simp; first | done | (with_reducible rfl))
           rotate_left
           focus (simp only [Act.put, List.getElem_toArray, List.getElem_cons_zero, List.getElem_cons_succ, List.setIfInBounds_toArray, List.set_cons_zero, List.set_cons_succ]; rfl))
        | (refine mix3_pure (v := ?_) rfl rfl ?_ (mix3_norm (a' := ?_) ?_ ?_)
           rotate_left
           focus (intro w' hR; go_simp; first | done | (with_reducible rfl))
           rotate_left
           focus (simp only [Act.put, List.getElem_toArray, List.getElem_cons_zero, List.getElem_cons_succ, List.setIfInBounds_toArray, List.set_cons_zero, List.set_cons_succ]; rfl))
        | (refine mix3_freeOff rfl rfl (mix3_norm (a' := ?_) ?_ ?_)
           rotate_left
           focus (simp only [Act.put, List.getElem_toArray, List.getElem_cons_zero, List.getElem_cons_succ, List.setIfInBounds_toArray, List.set_cons_zero, List.set_cons_succ]; rfl))
        | (refine mix3_off rfl rfl (mix3_norm (a' := ?_) ?_ ?_)
           rotate_left
           focus (simp only [Act.put, List.getElem_toArray, List.getElem_cons_zero, List.getElem_cons_succ, List.setIfInBounds_toArray, List.set_cons_zero, List.set_cons_succ]; rfl)))
      refine mix3_eff rfl ?_
      simp only [List.getElem_toArray, List.getElem_cons_zero, List.getElem_cons_succ]
      go_wp2_with fail
      refine mixQ3_last (by simp) rfl ?_
      refine mix3_done ?_
      go_wp2_with fail
      go_ret
      exact ⟨by rw [HE.out.1]; rfl, T.set k t1, HM.out, by rw [HE.out.2]; exact Hxs.out⟩
  · rw [decide_eq_false hin] at HH
    have HE := Lib.hid (show writeE (texts T) i s = 3 ∧ writeM (texts T) i s = texts T from ⟨by unfold writeE; rw [texts_length, if_neg hin], by unfold writeM; rw [texts_length, if_neg (fun h => hin h.1)]⟩)
    have Hp := Lib.hid h
    clear h hin
    go_enter Try.func51, Try.ntmps51
    go_wp2_with fail
    refine HH.out.mono ?_
    rintro e w1 ⟨rfl, rfl⟩
    go_wp2_with fail
    go_ret
    exact ⟨by rw [HE.out.1]; rfl, T, RPD.refl Hp.out, HE.out.2.symm⟩
end
end Go.Proofs.Ytiolfnnkkflaiaa
