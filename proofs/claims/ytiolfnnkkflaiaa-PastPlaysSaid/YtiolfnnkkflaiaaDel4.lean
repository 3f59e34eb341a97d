/- What must be written: the document's answer. -/
import Derived.Test.YtiolfnnkkflaiaaDel3
open Go.RowKit
namespace Go.Proofs.Ytiolfnnkkflaiaa

set_option maxHeartbeats 2000000 in
set_option maxRecDepth 100000 in
theorem refMake_any (w : World) (A B : Option Addr) (l m : List ByteArray) (c d : Nat) (hr : Reads w 1 A l.length (sts l)) (hs : Reads w 1 B m.length (sts m)) :
    Calls Try.prog 15 #[.slice A l.length c, .slice B m.length d] w fun e w' => ∃ A1 c1, e = .returned (.tuple #[.slice A1 (makeL l m).length c1, .int .i64 (makeE l m : Nat)]) ∧ PutOut w w' A1 c1 (makeL l m) := by
  have Hr := Lib.hid hr
  have Hs := Lib.hid hs
  clear hr hs
  by_cases h1 : l.length ≠ m.length ∨ 128 < l.length
  · obtain ⟨e1, e2⟩ := makeE_long h1
    rw [e1, e2]
    have hb : ((l.length : Int) != (m.length : Int)) = true ∨ ((l.length : Int) != (m.length : Int)) = false ∧ 128 < l.length := by
      by_cases h : l.length = m.length
      · right; exact ⟨by simp [h], by rcases h1 with h1 | h1; exact absurd h h1; exact h1⟩
      · left; rw [bne_iff_ne]; omega
    clear h1 e1 e2
    rcases hb with hb | ⟨hb, h2⟩
    all_goals
      go_enter Try.func15, Try.ntmps15
      go_wp2_with fail
      go_ret2
      exact ⟨none, 0, rfl, PutOut.nil _⟩
  · have H1 := Lib.hid h1
    have hb : ((l.length : Int) != (m.length : Int)) = false := by simp; omega
    have h3 : ¬ 128 < l.length := by omega
    have Hlm := Lib.hid (show l.length = m.length by omega)
    have hl128 : l.length ≤ 128 := by omega
    clear h1
    go_enter Try.func15, Try.ntmps15
    go_wp2_with fail
    clear hb
    go_loopw [6, 7] (fun v i wr => ∃ (k : Nat) (A1 : Option Addr) (c1 : Nat) (ps : List (Int × ByteArray)), k ≤ l.length ∧ v = .slice A1 ps.length c1 ∧ i = .int .i64 k ∧ Hid (ps.length ≤ k) ∧ Hid (ps ++ diffs k (l.drop k) (m.drop k) = diffs 0 l m) ∧ Hid (oddB (l.drop k) = oddB l ∧ oddB (m.drop k) = oddB m) ∧ Hid (PutOut w wr A1 c1 ps)) (fun _ i _ => l.length - (intOf i).toNat)
    case atStart => exact ⟨0, none, 0, [], Nat.zero_le _, rfl, rfl, Lib.hid (Nat.zero_le _), Lib.hid rfl, Lib.hid ⟨rfl, rfl⟩, Lib.hid (PutOut.nil _)⟩
    case round =>
      obtain ⟨k, A1, c1, ps, hk, rfl, rfl, Hp, HD, HO, HP⟩ := hrel
      by_cases hlt : k < l.length
      · have hltm : k < m.length := by rw [← Hlm.out]; exact hlt
        obtain ⟨ad, rfl, d0⟩ := str_cell (Hr.out.below HP.out.2.2) hlt
        obtain ⟨bd, rfl, d1⟩ := str_cell (Hs.out.below HP.out.2.2) hltm
        rw [drop_at hlt, drop_at hltm] at HD
        rw [drop_at hlt, drop_at hltm, oddB_cons, oddB_cons] at HO
        generalize l[k] = x at d0 HD HO
        generalize m[k] = y at d1 HD HO
        have hkI : (k : Int) < (m.length : Int) := by omega
        have HS1 := Lib.hid (refSecRight_any x wr)
        have HS2 := Lib.hid (refSecRight_any y wr)
        cases h4 : rightS x with
        | false =>
          rw [h4] at HS1 HO
          have HF := Lib.hid (makeE_odd H1.out (.inl (HO.out.1.symm.trans rfl)))
          clear h4
          go_wp2_with fail
          refine HS1.out.mono ?_
          rintro e w1 ⟨rfl, rfl⟩
          go_wp2_with fail
          go_ret2
          exact ⟨none, 0, by rw [HF.out.1, HF.out.2]; rfl, by rw [HF.out.2]; exact ⟨URow.nil _, by simp [blk], HP.out.2.2⟩⟩
        | true =>
          rw [h4] at HS1 HO
          clear h4
          cases h5 : rightS y with
          | false =>
            rw [h5] at HS2 HO
            have HF := Lib.hid (makeE_odd H1.out (.inr (HO.out.2.symm.trans rfl)))
            clear h5
            go_wp2_with fail
            refine HS1.out.mono ?_
            rintro e w1 ⟨rfl, rfl⟩
            go_wp2_with fail
            refine HS2.out.mono ?_
            rintro e w1 ⟨rfl, rfl⟩
            go_wp2_with fail
            go_ret2
            exact ⟨none, 0, by rw [HF.out.1, HF.out.2]; rfl, by rw [HF.out.2]; exact ⟨URow.nil _, by simp [blk], HP.out.2.2⟩⟩
          | true =>
            rw [h5] at HS2 HO
            have HO2 : Hid (oddB (l.drop (k + 1)) = oddB l ∧ oddB (m.drop (k + 1)) = oddB m) := Lib.hid ⟨by have := HO.out.1; simpa using this, by have := HO.out.2; simpa using this⟩
            clear h5
            have hdr : Below wr.heap.size wr wr.drew := (Below.refl _ _).drew
            have d0' := (hdr.cell (p := ad.add k) (World.block_lt_of_cell? _ _ d0)).trans d0
            have d1' := (hdr.cell (p := bd.add k) (World.block_lt_of_cell? _ _ d1)).trans d1
            have HPd := Lib.hid (HP.out.keep hdr)
            clear hdr
            by_cases hxy : x = y
            · subst hxy
              rw [diffs_same] at HD
              go_wp2_with fail
              refine HS1.out.mono ?_
              rintro e w1 ⟨rfl, rfl⟩
              go_wp2_with fail
              refine HS2.out.mono ?_
              rintro e w1 ⟨rfl, rfl⟩
              go_wp2_with fail
              have q0 := fun w' (hk : KeepsBut [] wr.drew w') => hk.cell (p := ad.add k) d0' (by simp)
              have q1 := fun w' (hk : KeepsBut [] wr.drew w') => hk.cell (p := bd.add k) d1' (by simp)
              refine wp_region_mix3 (KeepsBut []) (KeepsBut.refl []) (KeepsBut.trans []) [] [(0, 0), (0, 1), (0, 2), (0, 4), (0, 5), (0, 6), (1, 3), (1, 7), (0, 8)] (by kernel_rfl) (by kernel_rfl) (fun d _ _ _ _ h => by cases d <;> exact h) ?_
              repeat (first
                | (refine mix3_free (v := ?_) rfl rfl ?_ (mix3_norm (a' := ?_) ?_ ?_)
                   rotate_left
                   focus (intro w'; go_simp; first | done | (with_reducible rfl))
                   rotate_left
                   focus (simp only [Act.put, List.getElem_toArray, List.getElem_cons_zero, List.getElem_cons_succ, List.setIfInBounds_toArray, List.set_cons_zero, List.set_cons_succ]; rfl))
                | (refine mix3_pure (v := ?_) rfl rfl ?_ (mix3_norm (a' := ?_) ?_ ?_)
                   rotate_left
                   focus (intro w' hR; go_simp; first | done | (with_reducible rfl))
                   rotate_left
                   focus (simp only [Act.put, List.getElem_toArray, List.getElem_cons_zero, List.getElem_cons_succ, List.setIfInBounds_toArray, List.set_cons_zero, List.set_cons_succ]; rfl))
                | (refine mix3_freeOff rfl rfl (mix3_norm (a' := ?_) ?_ ?_)
                   rotate_left
                   focus (simp only [Act.put, List.getElem_toArray, List.getElem_cons_zero, List.getElem_cons_succ, List.setIfInBounds_toArray, List.set_cons_zero, List.set_cons_succ]; rfl))
                | (refine mix3_off rfl rfl (mix3_norm (a' := ?_) ?_ ?_)
                   rotate_left
                   focus (simp only [Act.put, List.getElem_toArray, List.getElem_cons_zero, List.getElem_cons_succ, List.setIfInBounds_toArray, List.set_cons_zero, List.set_cons_succ]; rfl)))
              refine mix3_done ?_
              clear q0 q1 d0 d1 d0' d1'
              go_wp2_with fail
              case roundEnd =>
                exact ⟨⟨k + 1, A1, c1, ps, by omega, rfl, by push_cast; rfl, Lib.hid (by have := Hp.out; omega), HD, HO2, HPd⟩, by simp only [intOf]; omega⟩
            · have hne : (x.toList == y.toList) = false := by rw [beq_eq_false_iff_ne]; exact str_ne hxy
              rw [diffs_other hxy] at HD
              clear hxy
              have Hlen := Lib.hid (show ps.length + 1 ≤ 100000 by have := Hp.out; omega)
              have HX := Lib.hid (show URow (wr.alloc (.cells #[.int .i64 (k : Int), .string y] 93)).drew A1 c1 ps ∧ Reads (wr.alloc (.cells #[.int .i64 (k : Int), .string y] 93)).drew 2 (some ⟨wr.heap.size, 0, none⟩) 1 (pks [((k : Int), y)]) from
                ⟨HP.out.1.below (((Below.refl _ _).alloc (Nat.le_refl _) _).drew), Reads.of_block (n := 1) (heap_alloc_new wr _) rfl⟩)
              go_wp2_with fail
              refine HS1.out.mono ?_
              rintro e w1 ⟨rfl, rfl⟩
              go_wp2_with fail
              refine HS2.out.mono ?_
              rintro e w1 ⟨rfl, rfl⟩
              go_wp2_with fail
              have q0 := fun w' (hk : KeepsBut [] wr.drew w') => hk.cell (p := ad.add k) d0' (by simp)
              have q1 := fun w' (hk : KeepsBut [] wr.drew w') => hk.cell (p := bd.add k) d1' (by simp)
              refine wp_region_mix3 (KeepsBut []) (KeepsBut.refl []) (KeepsBut.trans []) [] [(0, 0), (0, 1), (0, 2), (0, 4), (0, 5), (0, 6), (1, 3), (1, 7), (0, 8)] (by kernel_rfl) (by kernel_rfl) (fun d _ _ _ _ h => by cases d <;> exact h) ?_
              repeat (first
                | (refine mix3_free (v := ?_) rfl rfl ?_ (mix3_norm (a' := ?_) ?_ ?_)
                   rotate_left
                   focus (intro w'; go_simp; first | done | (with_reducible rfl))
                   rotate_left
                   focus (simp only [Act.put, List.getElem_toArray, List.getElem_cons_zero, List.getElem_cons_succ, List.setIfInBounds_toArray, List.set_cons_zero, List.set_cons_succ]; rfl))
                | (refine mix3_pure (v := ?_) rfl rfl ?_ (mix3_norm (a' := ?_) ?_ ?_)
                   rotate_left
                   focus (intro w' hR; go_simp; first | done | (with_reducible rfl))
                   rotate_left
                   focus (simp only [Act.put, List.getElem_toArray, List.getElem_cons_zero, List.getElem_cons_succ, List.setIfInBounds_toArray, List.set_cons_zero, List.set_cons_succ]; rfl))
                | (refine mix3_freeOff rfl rfl (mix3_norm (a' := ?_) ?_ ?_)
                   rotate_left
                   focus (simp only [Act.put, List.getElem_toArray, List.getElem_cons_zero, List.getElem_cons_succ, List.setIfInBounds_toArray, List.set_cons_zero, List.set_cons_succ]; rfl))
                | (refine mix3_off rfl rfl (mix3_norm (a' := ?_) ?_ ?_)
                   rotate_left
                   focus (simp only [Act.put, List.getElem_toArray, List.getElem_cons_zero, List.getElem_cons_succ, List.setIfInBounds_toArray, List.set_cons_zero, List.set_cons_succ]; rfl)))
              refine mix3_done ?_
              clear q0 q1
              go_wp2_with (at_builtin; refine wpList_append_put rfl (.tmp 53) (.tmp 60) rfl A1 c1 ps rfl HX.out.1 (some ⟨wr.heap.size, 0, none⟩) 1 [((k : Int), y)] 1 rfl rfl HX.out.2 Hlen.out ?_)
              intro A2 c2 w2 hrow hchg hblk
              have hC : Chg (fun i => blk A1 = some i) wr w2 := (((Chg.refl (fun i => blk A1 = some i) wr).alloc _).drew).trans hchg (fun _ _ h => h)
              have Hout := Lib.hid (HP.out.grow hrow hC (fun k hk => by
                rcases hblk k hk with h | h
                · exact .inl h
                · right; have := HP.out.2.2.size; omega))
              clear hrow hchg hblk hC d0 d1 d0' d1'
              go_wp2_with fail
              case roundEnd =>
                exact ⟨⟨k + 1, A2, c2, ps ++ [((k : Int), y)], by omega, by simp, by push_cast; rfl, Lib.hid (by have := Hp.out; simp; omega), Lib.hid (by rw [List.append_assoc]; exact HD.out), HO2, Hout⟩, by simp only [intOf]; omega⟩
      · obtain rfl : k = l.length := by omega
        have h4 : ¬ (oddB l = true ∨ oddB m = true) := by
          have h5 := HO.out.1
          have h6 := HO.out.2
          rw [List.drop_length] at h5
          rw [Hlm.out, List.drop_length] at h6
          rw [← h5, ← h6]
          simp [oddB]
        have HE := Lib.hid (makeE_ok H1.out h4)
        have HF : Hid (ps = makeL l m) := Lib.hid (by have h := HD.out; rw [HE.out.2, ← h, Hlm.out, List.drop_length, diffs_nil, List.append_nil])
        clear h4
        go_wp2_with fail
        go_ret2
        exact ⟨A1, c1, by rw [← HF.out, HE.out.1]; rfl, by rw [← HF.out]; exact HP.out⟩
end Go.Proofs.Ytiolfnnkkflaiaa
