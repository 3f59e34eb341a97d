/- A past of the document's: a new one; an image; what is sealed. -/
import Derived.Test.YtiolfnnkkflaiaaRPast3
open Go.RowKit
namespace Go.Proofs.Ytiolfnnkkflaiaa
set_option maxHeartbeats 4000000 in
set_option maxRecDepth 100000 in
theorem refNew_any (w : World) (A' : Option Addr) (c' : Nat) (l : List ByteArray) (hr : Reads w 1 A' l.length (sts l)) (hl : l.length ≤ 90000) :
    Calls Try.prog 50 #[.slice A' l.length c'] w fun e w' => ∃ g A c T, e = .returned (.pointer (some ⟨g, 0, none⟩)) ∧ RPM w' g A c T none 0 none 0 [] ∧ texts T = newM l ∧ (∀ i, RPF g A T none none [] i → w.heap.size ≤ i) ∧ Below w.heap.size w w' := by
  have Hr := Lib.hid hr
  clear hr
  obtain ⟨hb0, hg0, hs0⟩ := alloc1 w #[.slice none 0 0, .slice none 0 0, .slice none 0 0] 87
  have hM0 : RPM (w.alloc (.cells #[.slice none 0 0, .slice none 0 0, .slice none 0 0] 87)) w.heap.size none 0 [] none 0 none 0 [] := ⟨hg0, Tab.nil _, JTab.nil _, fun h => by rcases h with h | ⟨k, hk, _⟩; exact (by cases h); simp at hk, fun h => by rcases h with h | h | ⟨k, hk, _⟩; exact (by cases h); exact (by cases h); simp at hk, fun i h => by rcases h with h | ⟨k, hk, _⟩; exact (by cases h); simp at hk⟩
  have HM0 := Lib.hid hM0
  have Hb0 := Lib.hid hb0
  clear hM0 hb0 hg0 hs0
  go_enter Try.func50, Try.ntmps50
  go_wp2_with fail
  generalize w.alloc (.cells #[.slice none 0 0, .slice none 0 0, .slice none 0 0] 87) = w1 at HM0 Hb0 ⊢
  go_loopw [4] (fun i wr => ∃ (k : Nat) (A : Option Addr) (c : Nat) (T : List TR), k ≤ l.length ∧ i = .int .i64 k ∧ Hid (RPM wr w.heap.size A c T none 0 none 0 []) ∧ Hid (texts T = newM (l.take k) ∧ T.length = k) ∧ Hid (∀ i, RPF w.heap.size A T none none [] i → w.heap.size ≤ i) ∧ Hid (Below w.heap.size w wr)) (fun i _ => l.length - (intOf i).toNat)
  case atStart => exact ⟨0, none, 0, [], Nat.zero_le _, rfl, HM0, Lib.hid ⟨rfl, rfl⟩, Lib.hid (fun i h => by
    rcases h with h | (h | ⟨k, hk, _⟩) | (h | h | ⟨k, hk, _⟩)
    · omega
    · cases h
    · simp at hk
    · cases h
    · cases h
    · simp at hk), Hb0⟩
  case round =>
    obtain ⟨k, A, c, T, hk, rfl, HM, HT, HF, Hb⟩ := hrel
    by_cases hlt : k < l.length
    · obtain ⟨ad, rfl, d0⟩ := str_cell (Hr.out.below Hb.out) hlt
      have Htk : Hid (newM (l.take (k + 1)) = newM (l.take k) ++ [[l[k]]]) := Lib.hid (by unfold newM; rw [List.take_succ_eq_append_getElem hlt, List.map_append]; rfl)
      obtain ⟨c0, _⟩ := cells3 HM.out.cell
      obtain ⟨hb2, hg2, hg3, hs2⟩ := alloc2 wr #[.string l[k]] 9 #[.slice (some ⟨wr.heap.size, 0, none⟩) 1 1] 22
      have HT2 := Lib.hid (HM.out.tab.below hb2.drew)
      have hlies : (⟨wr.heap.size, 0, 1, [l[k]]⟩ : TR).lies ((wr.alloc (.cells #[.string l[k]] 9)).alloc (.cells #[.slice (some ⟨wr.heap.size, 0, none⟩) 1 1] 22)).drew := (TR.lies.of_own (SRow.one wr l[k]) (by simp)).chg (F := fun _ => False) (.of_below ((alloc1 _ _ _).1.drew)) id
      have hnot : ¬ TabF A T wr.heap.size := fun e => by have := HM.out.tab.foot _ e; omega
      have HL := Lib.hid hlies
      have HN := Lib.hid hnot
      have HC := Lib.hid (show ((wr.alloc (.cells #[.string l[k]] 9)).alloc (.cells #[.slice (some ⟨wr.heap.size, 0, none⟩) 1 1] 22)).drew.cell? ⟨wr.heap.size + 1, 0, none⟩ = _ from (cells1 hg3).1)
      have Hs2 := Lib.hid hs2
      have Hb2 := Lib.hid hb2.drew
      have Hlen := Lib.hid (show T.length + 1 ≤ 100000 by have := HT.out.2; omega)
      clear hb2 hg2 hg3 hs2 hlies hnot
      generalize l[k] = s at d0 HT2 HL HC Hb2 Htk Hs2
      go_wp2_with fail
      have q0 := fun w' (hk : KeepsBut [] wr.drew w') => hk.cell (p := ⟨w.heap.size, 0, none⟩) c0 (by simp)
      have q1 := fun w' (hk : KeepsBut [] wr.drew w') => hk.cell (p := ad.add k) d0 (by simp)
      refine wp_region_mix3 (KeepsBut []) (KeepsBut.refl []) (KeepsBut.trans []) [11, 14] [(0, 0), (0, 1), (0, 2), (0, 3), (0, 5), (0, 6), (0, 7), (1, 4), (1, 8), (2, 9), (2, 10), (2, 11), (0, 12), (0, 13), (2, 14)] (by kernel_rfl) (by kernel_rfl) (fun d _ _ _ _ h => by cases d <;> exact h) ?_
      repeat (first
        | (refine mix3_free (v := ?_) rfl rfl ?_ (mix3_norm (a' := ?_) ?_ ?_)
           rotate_left
           focus (intro w'; go_simp; first | done | (with_reducible rfl))
           rotate_left
           focus (simp only [Act.put, List.getElem_toArray, List.getElem_cons_zero, List.getElem_cons_succ, List.setIfInBounds_toArray, List.set_cons_zero, List.set_cons_succ]; rfl))
        | (refine mix3_pure (v := ?_) rfl rfl ?_ (mix3_norm (a' := ?_) ?_ ?_)
           rotate_left
           focus (intro w' hR; go_simp; first | done | (with_reducible rfl))
           rotate_left
           focus (simp only [Act.put, List.getElem_toArray, List.getElem_cons_zero, List.getElem_cons_succ, List.setIfInBounds_toArray, List.set_cons_zero, List.set_cons_succ]; rfl))
        | (refine mix3_freeOff rfl rfl (mix3_norm (a' := ?_) ?_ ?_)
           rotate_left
           focus (simp only [Act.put, List.getElem_toArray, List.getElem_cons_zero, List.getElem_cons_succ, List.setIfInBounds_toArray, List.set_cons_zero, List.set_cons_succ]; rfl))
        | (refine mix3_off rfl rfl (mix3_norm (a' := ?_) ?_ ?_)
           rotate_left
           focus (simp only [Act.put, List.getElem_toArray, List.getElem_cons_zero, List.getElem_cons_succ, List.setIfInBounds_toArray, List.set_cons_zero, List.set_cons_succ]; rfl)))
      clear q0 q1 d0
      refine mix3_eff rfl ?_
      simp only [List.getElem_toArray, List.getElem_cons_zero, List.getElem_cons_succ]
      go_wp2_with fail
      refine mixQ3_normal (keeps_alloc_drew _ _) rfl ?_
      refine mix3_eff rfl ?_
      simp only [List.getElem_toArray, List.getElem_cons_zero, List.getElem_cons_succ]
      go_wp2_with fail
      refine mixQ3_normal (keeps_alloc_drew (wr.alloc _) _) rfl ?_
      refine mix3_eff rfl ?_
      simp only [List.getElem_toArray, List.getElem_cons_zero, List.getElem_cons_succ]
      refine wpList_append_tab rfl (.tmp 17) (.tmp 23) rfl A c T rfl HT2.out ⟨wr.heap.size, 0, 1, [s]⟩ HL.out HN.out (wr.heap.size + 1) rfl HC.out Hlen.out ?_
      intro A1 c1 w2 ht hc hk1
      obtain ⟨h1, h2, h3⟩ := HM.out.push Hb2.out (t := ⟨wr.heap.size, 0, 1, [s]⟩) (Nat.le_refl _) ht hc (fun k hk => hk1 k hk)
      have hg4 := (hc.block w.heap.size (Nat.lt_of_lt_of_le HM.out.lt Hb2.out.size) (fun e => HM.out.s1 (.inl e))).trans ((Hb2.out.block _ HM.out.lt).trans HM.out.cell)
      obtain ⟨_, _, _, k0, _⟩ := cells3 hg4
      obtain ⟨u5, d5⟩ : ∃ u, w2.cell? ⟨w.heap.size, 0, none⟩ = some u := ⟨_, (cells3 hg4).1⟩
      have el : (T ++ [⟨wr.heap.size, 0, 1, [s]⟩] : List TR).length = T.length + 1 := by simp
      rw [el] at h1 h3
      have H1 := Lib.hid h1
      have HT3 := Lib.hid (show texts (T ++ [⟨wr.heap.size, 0, 1, [s]⟩]) = newM (l.take (k + 1)) ∧ (T ++ [⟨wr.heap.size, 0, 1, [s]⟩] : List TR).length = k + 1 from ⟨by rw [Htk.out, ← HT.out.1]; simp [texts], by rw [List.length_append, HT.out.2]; rfl⟩)
      have HF3 := Lib.hid (show ∀ i, RPF w.heap.size A1 (T ++ [⟨wr.heap.size, 0, 1, [s]⟩]) none none [] i → w.heap.size ≤ i from fun i hi => by
        rcases h2 i hi with h2 | h2
        · exact HF.out i h2
        · exact Nat.le_trans Hb.out.size h2)
      have Hb3 := Lib.hid (show Below w.heap.size w (w2.setCell ⟨w.heap.size, 0, none⟩ (.slice A1 (T.length + 1) c1)) from Hb.out.trans (h3.below (fun i hi hf => by have := HF.out i hf; omega) Hb.out.size))
      clear el h1 h2 h3 hg4 ht hc hk1 c0
      go_wp2_with fail
      refine mixQ3_last (by simp) rfl ?_
      repeat (first
        | (refine mix3_free (v := ?_) rfl rfl ?_ (mix3_norm (a' := ?_) ?_ ?_)
           rotate_left
           focus (intro w'; go_simp; first | done | (with_reducible rfl))
           rotate_left
           focus (simp only [Act.put, List.getElem_toArray, List.getElem_cons_zero, List.getElem_cons_succ, List.setIfInBounds_toArray, List.set_cons_zero, List.set_cons_succ]; rfl))
        | (refine mix3_pure (v := ?_) rfl rfl ?_ (mix3_norm (a' := ?_) ?_ ?_)
           rotate_left
           focus (intro w' hR; go_simp; first | done | (with_reducible rfl))
           rotate_left
           focus (simp only [Act.put, List.getElem_toArray, List.getElem_cons_zero, List.getElem_cons_succ, List.setIfInBounds_toArray, List.set_cons_zero, List.set_cons_succ]; rfl))
        | (refine mix3_freeOff rfl rfl (mix3_norm (a' := ?_) ?_ ?_)
           rotate_left
           focus (simp only [Act.put, List.getElem_toArray, List.getElem_cons_zero, List.getElem_cons_succ, List.setIfInBounds_toArray, List.set_cons_zero, List.set_cons_succ]; rfl))
        | (refine mix3_off rfl rfl (mix3_norm (a' := ?_) ?_ ?_)
           rotate_left
           focus (simp only [Act.put, List.getElem_toArray, List.getElem_cons_zero, List.getElem_cons_succ, List.setIfInBounds_toArray, List.set_cons_zero, List.set_cons_succ]; rfl)))
      refine mix3_eff rfl ?_
      simp only [List.getElem_toArray, List.getElem_cons_zero, List.getElem_cons_succ]
      go_wp2_with fail
      refine mixQ3_last (by simp) rfl ?_
      refine mix3_done ?_
      clear d5 k0
      go_wp2_with fail
      case roundEnd =>
        exact ⟨⟨k + 1, A1, c1, _, by omega, by push_cast; rfl, H1, HT3, HF3, Hb3⟩, by simp only [intOf]; omega⟩
    · obtain rfl : k = l.length := by omega
      go_wp2_with fail
      go_ret
      exact ⟨w.heap.size, A, c, T, rfl, HM.out, by rw [HT.out.1, List.take_length], HF.out, Hb.out⟩

section
variable {w w1 w2 w3 w4 w5 : World} {g : Nat} {A : Option Addr} {c : Nat} {T : List TR} {E E1 B B1 : Option Addr} {ce ce1 d d1 : Nat} {I : List IM} {m : IM}
set_option maxHeartbeats 1000000 in
set_option maxRecDepth 100000 in
theorem refImage_any (h : RPM w g A c T E ce B d I) (hI : I.length ≤ 90000) (e : Nat) :
    Calls Try.prog 58 #[.pointer (some ⟨g, 0, none⟩), .int .u64 (e : Int)] w fun x w' => ∃ A1 c1, x = .returned (.tuple #[.slice A1 (imageL (imgs I) e).length c1, .int .i64 (imageE (imgs I) e : Nat)]) ∧ Reads w 1 A1 (imageL (imgs I) e).length (sts (imageL (imgs I) e)) ∧ w = w' := by
  obtain ⟨_, c1, c2, _⟩ := cells3 h.cell
  have Hp := Lib.hid h.img
  clear h
  go_enter Try.func58, Try.ntmps58
  go_wp2_with fail
  go_loopw [6] (fun i wr => ∃ k : Nat, k ≤ I.length ∧ i = .int .i64 k ∧ Hid (imgFind (imgs (I.drop k)) e = imgFind (imgs I) e) ∧ w = wr) (fun i _ => I.length - (intOf i).toNat)
  case atStart => exact ⟨0, Nat.zero_le _, rfl, Lib.hid rfl, rfl⟩
  case round =>
    obtain ⟨k, hk, rfl, HO, rfl⟩ := hrel
    by_cases hlt : k < I.length
    · obtain ⟨b, rfl, d0⟩ := Hp.out.ecell hlt
      obtain ⟨b2, rfl, d1⟩ := Hp.out.cell hlt
      have hrow := Hp.out.lies I[k] (List.getElem_mem hlt)
      rw [List.drop_eq_getElem_cons hlt, show imgs (I[k] :: I.drop (k + 1)) = (I[k].e, I[k].xs) :: imgs (I.drop (k + 1)) from rfl] at HO
      have hkI : (k : Int) < (I.length : Int) := by omega
      generalize I[k] = m at d0 d1 hrow HO
      by_cases he : m.e = e
      · subst he
        have HE := Lib.hid (show imageL (imgs I) m.e = m.xs ∧ imageE (imgs I) m.e = 0 by
          have h1 := HO.out
          rw [imgFind_hit (m.e, m.xs)] at h1
          exact ⟨by unfold imageL; rw [← h1]; rfl, by unfold imageE; rw [← h1]; rfl⟩)
        have HR := Lib.hid hrow.reads
        clear hrow HO
        go_wp2_with fail
        go_ret2
        exact ⟨m.A, m.c, by rw [HE.out.1, HE.out.2]; rfl, by rw [HE.out.1]; exact HR.out, rfl⟩
      · have hne : ((m.e : Int) == (e : Int)) = false := by rw [beq_eq_false_iff_ne]; omega
        have HO2 : Hid (imgFind (imgs (I.drop (k + 1))) e = imgFind (imgs I) e) := Lib.hid ((imgFind_miss (m := (m.e, m.xs)) _ he).symm.trans HO.out)
        clear hrow HO he
        go_wp2_with fail
        case roundEnd =>
          exact ⟨⟨k + 1, by omega, by push_cast; rfl, HO2, trivial⟩, by simp only [intOf]; omega⟩
    · obtain rfl : k = I.length := by omega
      have HE := Lib.hid (show imageL (imgs I) e = [] ∧ imageE (imgs I) e = 10 by
        have h1 := HO.out
        rw [List.drop_length] at h1
        have h1 : imgFind (imgs I) e = none := h1.symm
        exact ⟨by unfold imageL; rw [h1]; rfl, by unfold imageE; rw [h1]; rfl⟩)
      have hd : decide ((I.length : Int) < (I.length : Int)) = false := decide_eq_false (by omega)
      go_wp2_with fail
      go_ret2
      exact ⟨none, 0, by rw [HE.out.1, HE.out.2]; rfl, by rw [HE.out.1]; exact Reads.nil _ _ _, rfl⟩
end
end Go.Proofs.Ytiolfnnkkflaiaa
