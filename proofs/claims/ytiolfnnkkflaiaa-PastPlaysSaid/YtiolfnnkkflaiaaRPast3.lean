/- A past of the document's: all were written; what sectors are found as; a new one. -/
import Derived.Test.YtiolfnnkkflaiaaRPast2
open Go.RowKit
namespace Go.Proofs.Ytiolfnnkkflaiaa
section
variable {w : World} {g : Nat} {A : Option Addr} {b c : Nat} {T : List TR} {E B : Option Addr} {ce d : Nat} {I : List IM}
set_option maxHeartbeats 4000000 in
set_option maxRecDepth 100000 in
theorem refFlush_any (h : RPM w g A c T E ce B d I) (hlen : ∀ k (hk : k < T.length), T[k].xs.length ≤ 100000) (hT : T.length ≤ 90000) :
    Calls Try.prog 52 #[.pointer (some ⟨g, 0, none⟩)] w fun e w' => e = .returned (.tuple #[]) ∧ ∃ T', RPD w g A c T E ce B d I w' T' ∧ texts T' = flushM (texts T) := by
  have Hp := Lib.hid h
  have Hlen := Lib.hid hlen
  clear h hlen
  go_enter Try.func52, Try.ntmps52
  go_wp2_with fail
  go_loopw [2] (fun i wr => ∃ (k : Nat) (T1 : List TR), k ≤ T.length ∧ i = .int .i64 k ∧ Hid (RPD w g A c T E ce B d I wr T1) ∧ Hid (texts T1 = flushK (texts T) k)) (fun i _ => T.length - (intOf i).toNat)
  case atStart => exact ⟨0, T, Nat.zero_le _, rfl, Lib.hid (RPD.refl Hp.out), Lib.hid (flushK_zero _).symm⟩
  case round =>
    obtain ⟨k, T1, hk, rfl, HD, HX⟩ := hrel
    obtain ⟨c0, _⟩ := cells3 HD.out.m.cell
    have hTl := HD.out.len
    by_cases hlt : k < T.length
    · have hlt1 : k < T1.length := by rw [HD.out.len]; exact hlt
      obtain ⟨b, rfl, hb, d1, f1⟩ := HD.out.m.tab.cell hlt1
      have hx1 : (texts T)[k]? = some T1[k].xs := by
        rw [← flushK_get (texts T) k (by rw [texts_length]; exact hlt), ← HX.out]
        simp [texts, hlt1]
      have Hl1 : Hid (∀ j (hj : j < T1.length), T1[j].xs.length ≤ 100000) := Lib.hid fun j hj => by
        have hjT : j < T.length := by rw [← HD.out.len]; exact hj
        have h1 : (texts T1)[j]? = (flushK (texts T) k)[j]? := by rw [HX.out]
        have h2 : (texts T1)[j]? = some T1[j].xs := by simp [texts, hj]
        rw [h2] at h1
        unfold flushK flushM at h1
        rw [List.getElem?_append] at h1
        split at h1
        · rename_i h3
          simp at h3
          rw [List.getElem?_map, List.getElem?_take, if_pos (by omega)] at h1
          rw [List.getElem?_eq_getElem (by rw [texts_length]; exact hjT)] at h1
          have h1 := Option.some.inj h1
          rw [h1]; simp
        · rename_i h3
          rw [List.length_map, List.length_take, texts_length, Nat.min_eq_left hk] at h1 h3
          rw [List.getElem?_drop, show k + (j - k) = j by omega, List.getElem?_eq_getElem (by rw [texts_length]; exact hjT)] at h1
          have h1 := Option.some.inj h1
          rw [h1, show (texts T)[j]'(by rw [texts_length]; exact hjT) = T[j].xs by simp [texts]]
          exact Hlen.out j hjT
      have HL := Lib.hid (refLast_any HD.out.m Hl1.out (k : Int))
      have hx : lastP (texts T1) (k : Int) = lastS T1[k].xs := by
        unfold lastP
        rw [if_pos (by unfold inP; rw [texts_length]; omega), Int.toNat_natCast, texts_get T1 k hlt1]
      rw [hx] at HL
      have Hset := Lib.hid (HD.out.set (w2 := wr.alloc (.cells #[.string (lastS T1[k].xs)] 9)) (t1 := ⟨wr.heap.size, 0, 1, [lastS T1[k].xs]⟩) hlt1 ((Chg.refl _ wr).alloc _) (TR.lies.of_own (SRow.one wr (lastS T1[k].xs)) (by simp)) (.inr (Nat.le_refl _)))
      have HX2 : Hid (texts (T1.set k ⟨wr.heap.size, 0, 1, [lastS T1[k].xs]⟩) = flushK (texts T) (k + 1)) := Lib.hid (by
        have hk2 : k < (texts T).length := by rw [texts_length]; exact hlt
        have hx2 : (texts T)[k] = T1[k].xs := by
          rw [List.getElem?_eq_getElem hk2] at hx1
          exact Option.some.inj hx1
        rw [texts_set, HX.out, ← flushK_succ _ _ hk2, hx2])
      have hkI : (k : Int) < (T1.length : Int) := by omega
      have hT1 : T1.length ≤ 90000 := by omega
      generalize lastS T1[k].xs = s at HL Hset HX2
      rw [show ((wr.alloc (.cells #[.string s] 9)).setCell ⟨b, k, none⟩ (TR.v ⟨wr.heap.size, 0, 1, [s]⟩)) = (wr.setCell ⟨b, k, none⟩ (.slice (some ⟨wr.heap.size, 0, none⟩) 1 1)).alloc (.cells #[.string s] 9) from World.setCell_alloc_past _ b k _ hb] at Hset
      clear hx hx1
      go_wp2_with fail
      refine HL.out.mono ?_
      rintro e w1 ⟨rfl, rfl⟩
      go_wp2_with fail
      case roundEnd =>
        exact ⟨⟨k + 1, _, by omega, by push_cast; rfl, Hset, HX2⟩, by simp only [intOf]; omega⟩
    · obtain rfl : k = T.length := by omega
      go_wp2_with fail
      go_end0
      exact ⟨rfl, T1, HD.out, by rw [HX.out, ← texts_length T, flushK_all]⟩

set_option maxHeartbeats 4000000 in
set_option maxRecDepth 100000 in
theorem refCrash_any (h : RPM w g A c T E ce B d I) (hlen : ∀ k (hk : k < T.length), T[k].xs.length ≤ 100000) (A' : Option Addr) (c' : Nat) (l : List ByteArray) (hr : Reads w 1 A' l.length (sts l)) (hsep : 0 < l.length → ∀ k, blk A' = some k → ¬ RPF g A T E B I k) (hl : l.length ≤ 100000) :
    Calls Try.prog 53 #[.pointer (some ⟨g, 0, none⟩), .slice A' l.length c'] w fun e w' => e = .returned (.int .i64 (crashE (texts T) l : Nat)) ∧ ∃ T', RPD w g A c T E ce B d I w' T' ∧ texts T' = crashM (texts T) l := by
  obtain ⟨c0, _⟩ := cells3 h.cell
  have Hp := Lib.hid h
  have Hlen := Lib.hid hlen
  have Hr := Lib.hid hr
  have Hsep := Lib.hid hsep
  clear h hlen hr hsep
  by_cases hlT : l.length = T.length
  · have hb : ((l.length : Int) != (T.length : Int)) = false := by simp; omega
    have HlT := Lib.hid hlT
    have HE0 := Lib.hid (show crashE (texts T) l = if crashOk (texts T) l = true then 0 else 10 by unfold crashE; rw [if_neg (by rw [texts_length]; omega)])
    clear hlT
    go_enter Try.func53, Try.ntmps53
    go_wp2_with fail
    clear hb
    go_loopw [5] (fun i wr => ∃ (k : Nat), k ≤ l.length ∧ i = .int .i64 k ∧ Hid (crashOk ((texts T).drop k) (l.drop k) = crashOk (texts T) l) ∧ w = wr) (fun i _ => l.length - (intOf i).toNat)
    case atStart => exact ⟨0, Nat.zero_le _, rfl, Lib.hid rfl, rfl⟩
    case round =>
      obtain ⟨k, hk, rfl, HO, rfl⟩ := hrel
      by_cases hlt : k < l.length
      · have hlt1 : k < (texts T).length := by rw [texts_length, ← HlT.out]; exact hlt
        obtain ⟨ad, rfl, d0⟩ := str_cell Hr.out hlt
        rw [drop_at hlt, drop_at hlt1, crashOk_cons] at HO
        have HM := Lib.hid (refHas_any Hp.out Hlen.out (k : Int) l[k])
        have Hm := Lib.hid (show mayP (texts T) (k : Int) l[k] = hasS (texts T)[k] l[k] by
          unfold mayP
          rw [decide_eq_true (by unfold inP; omega), Bool.true_and, Int.toNat_natCast, List.getD_eq_getElem?_getD, List.getElem?_eq_getElem hlt1]; rfl)
        rw [Hm.out] at HM
        generalize l[k] = s at d0 HO HM Hm
        generalize (texts T)[k] = x at HO HM Hm
        clear Hm
        cases h3 : hasS x s with
        | true =>
          rw [h3, Bool.true_and] at HO
          rw [h3] at HM
          clear h3
          go_wp2_with fail
          refine HM.out.mono ?_
          rintro e w1 ⟨rfl, rfl⟩
          go_wp2_with fail
          case roundEnd =>
            exact ⟨⟨k + 1, by omega, by push_cast; rfl, HO, trivial⟩, by simp only [intOf]; omega⟩
        | false =>
          rw [h3, Bool.false_and] at HO
          rw [h3] at HM
          clear h3
          have HE := Lib.hid (show crashE (texts T) l = 10 by rw [HE0.out, ← HO.out]; rfl)
          go_wp2_with fail
          refine HM.out.mono ?_
          rintro e w1 ⟨rfl, rfl⟩
          go_wp2_with fail
          go_ret
          exact ⟨by rw [HE.out]; rfl, T, RPD.refl Hp.out, by unfold crashM; rw [HE.out]; rfl⟩
      · obtain rfl : k = l.length := by omega
        have HE := Lib.hid (show crashE (texts T) l = 0 by rw [HE0.out, ← HO.out, List.drop_length, crashOk_nil]; rfl)
        clear HO c0
        go_wp2_with fail
        go_loopw [6] (fun i wr => ∃ (k : Nat) (T1 : List TR), k ≤ l.length ∧ i = .int .i64 k ∧ Hid (RPD w g A c T E ce B d I wr T1) ∧ Hid (texts T1 = overK (l.map fun s => [s]) (texts T) k)) (fun i _ => l.length - (intOf i).toNat)
        case atStart => exact ⟨0, T, Nat.zero_le _, rfl, Lib.hid (RPD.refl Hp.out), Lib.hid (overK_zero _ _).symm⟩
        case round =>
          obtain ⟨k, T1, hk, rfl, HD, HX⟩ := hrel
          by_cases hlt : k < l.length
          · have hlt1 : k < T1.length := by rw [HD.out.len, ← HlT.out]; exact hlt
            obtain ⟨b, rfl, hb, d1, f1⟩ := HD.out.m.tab.cell hlt1
            obtain ⟨ad, rfl, d0⟩ := str_cell (Hr.out.chg HD.out.chg (Hsep.out (by omega))) hlt
            obtain ⟨c0, _⟩ := cells3 HD.out.m.cell
            have hkI : (k : Int) < (T1.length : Int) := by omega
            have Hset := Lib.hid (HD.out.set (w2 := (wr.alloc (.cells #[.string l[k]] 9)).drew) (t1 := ⟨wr.heap.size, 0, 1, [l[k]]⟩) hlt1 (((Chg.refl _ wr).alloc _).drew) ((TR.lies.of_own (SRow.one wr l[k]) (by simp)).chg (F := fun _ => False) ((Chg.refl _ _).drew) id) (.inr (Nat.le_refl _)))
            have HX2 : Hid (texts (T1.set k ⟨wr.heap.size, 0, 1, [l[k]]⟩) = overK (l.map fun s => [s]) (texts T) (k + 1)) := Lib.hid (by
              rw [texts_set, HX.out, ← overK_succ (by rw [List.length_map, texts_length]; exact HlT.out) k (by rw [texts_length, ← HlT.out]; exact hlt)]
              simp)
            generalize l[k] = s at d0 Hset HX2
            rw [show (((wr.alloc (.cells #[.string s] 9)).drew).setCell ⟨b, k, none⟩ (TR.v ⟨wr.heap.size, 0, 1, [s]⟩)) = ((wr.setCell ⟨b, k, none⟩ (.slice (some ⟨wr.heap.size, 0, none⟩) 1 1)).alloc (.cells #[.string s] 9)).drew from congrArg World.drew (World.setCell_alloc_past _ b k _ hb)] at Hset
            go_wp2_with fail
            have q0 := fun w' (hk : KeepsBut [] wr.drew w') => hk.cell (p := ⟨g, 0, none⟩) c0 (by simp)
            have q1 := fun w' (hk : KeepsBut [] wr.drew w') => hk.cell (p := ad.add k) d0 (by simp)
            refine wp_region_mix3 (KeepsBut []) (KeepsBut.refl []) (KeepsBut.trans []) [11] [(0, 0), (0, 1), (0, 2), (0, 4), (0, 5), (0, 6), (0, 7), (1, 3), (1, 8), (2, 9), (0, 10), (2, 11)] (by kernel_rfl) (by kernel_rfl) (fun d _ _ _ _ h => by cases d <;> exact h) ?_
            repeat (first
              | (refine mix3_free (v := ?_) rfl rfl ?_ (mix3_norm (a' := ?_) ?_ ?_)
                 rotate_left
                 focus (intro w'; go_simp; first | done | (with_reducible rfl))
                 rotate_left
                 focus (simp only [Act.put, List.getElem_toArray, List.getElem_cons_zero, List.getElem_cons_succ, List.setIfInBounds_toArray, List.set_cons_zero, List.set_cons_succ]; rfl))
              | (refine mix3_pure (v := ?_) rfl rfl ?_ (mix3_norm (a' := ?_) ?_ ?_)
                 rotate_left
                 focus (intro w' hR; go_simp; first | done | (with_reducible rfl))
                 rotate_left
                 focus (simp only [Act.put, List.getElem_toArray, List.getElem_cons_zero, List.getElem_cons_succ, List.setIfInBounds_toArray, List.set_cons_zero, List.set_cons_succ]; rfl))
              | (refine mix3_freeOff rfl rfl (mix3_norm (a' := ?_) ?_ ?_)
                 rotate_left
                 focus (simp only [Act.put, List.getElem_toArray, List.getElem_cons_zero, List.getElem_cons_succ, List.setIfInBounds_toArray, List.set_cons_zero, List.set_cons_succ]; rfl))
              | (refine mix3_off rfl rfl (mix3_norm (a' := ?_) ?_ ?_)
                 rotate_left
                 focus (simp only [Act.put, List.getElem_toArray, List.getElem_cons_zero, List.getElem_cons_succ, List.setIfInBounds_toArray, List.set_cons_zero, List.set_cons_succ]; rfl)))
            clear q0 q1 c0 d0
            refine mix3_eff rfl ?_
            simp only [List.getElem_toArray, List.getElem_cons_zero, List.getElem_cons_succ]
            go_wp2_with fail
            refine mixQ3_normal (keeps_alloc_drew _ _) rfl ?_
            repeat (first
              | (refine mix3_free (v := ?_) rfl rfl ?_ (mix3_norm (a' := ?_) ?_ ?_)
                 rotate_left
                 focus (intro w'; go_simp; first | done | (with_reducible rfl))
                 rotate_left
                 focus (simp only [Act.put, List.getElem_toArray, List.getElem_cons_zero, List.getElem_cons_succ, List.setIfInBounds_toArray, List.set_cons_zero, List.set_cons_succ]; rfl))
              | (refine mix3_pure (v := ?_) rfl rfl ?_ (mix3_norm (a' := ?_) ?_ ?_)
                 rotate_left
                 focus (intro w' hR; go_simp; first | done | (with_reducible rfl))
                 rotate_left
                 focus (simp only [Act.put, List.getElem_toArray, List.getElem_cons_zero, List.getElem_cons_succ, List.setIfInBounds_toArray, List.set_cons_zero, List.set_cons_succ]; rfl))
              | (refine mix3_freeOff rfl rfl (mix3_norm (a' := ?_) ?_ ?_)
                 rotate_left
                 focus (simp only [Act.put, List.getElem_toArray, List.getElem_cons_zero, List.getElem_cons_succ, List.setIfInBounds_toArray, List.set_cons_zero, List.set_cons_succ]; rfl))
              | (refine mix3_off rfl rfl (mix3_norm (a' := ?_) ?_ ?_)
                 rotate_left
                 focus (simp only [Act.put, List.getElem_toArray, List.getElem_cons_zero, List.getElem_cons_succ, List.setIfInBounds_toArray, List.set_cons_zero, List.set_cons_succ]; rfl)))
            refine mix3_eff rfl ?_
            simp only [List.getElem_toArray, List.getElem_cons_zero, List.getElem_cons_succ]
            go_wp2_with fail
            refine mixQ3_last (by simp) rfl ?_
            refine mix3_done ?_
            go_wp2_with fail
            case roundEnd =>
              exact ⟨⟨k + 1, _, by omega, by push_cast; rfl, Hset, HX2⟩, by simp only [intOf]; omega⟩
          · obtain rfl : k = l.length := by omega
            go_wp2_with fail
            go_ret
            exact ⟨by rw [HE.out]; rfl, T1, HD.out, by unfold crashM; rw [HE.out, if_pos rfl, HX.out, HlT.out, ← texts_length T, overK_all (by rw [List.length_map, texts_length]; exact HlT.out)]⟩
  · have hb : ((l.length : Int) != (T.length : Int)) = true := by rw [bne_iff_ne]; omega
    have HE := Lib.hid (show crashE (texts T) l = 8 by unfold crashE; rw [if_pos (by rw [texts_length]; exact hlT)])
    clear hlT
    go_enter Try.func53, Try.ntmps53
    go_wp2_with fail
    go_ret
    exact ⟨by rw [HE.out]; rfl, T, RPD.refl Hp.out, by unfold crashM; rw [HE.out]; rfl⟩
end
end Go.Proofs.Ytiolfnnkkflaiaa
