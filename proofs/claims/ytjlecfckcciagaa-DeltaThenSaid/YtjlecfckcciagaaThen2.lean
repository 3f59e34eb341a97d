/- The reference's Then, walked. -/
import Derived.Test.YtjlecfckcciagaaThen1
import Derived.Test.YtjlecfckcciagaaCut
open Go.RowKit
namespace Go.Proofs.Ytjlecfckcciagaa

theorem insR_at {p : Int × ByteArray} : ∀ (l : List (Int × ByteArray)) (k : Nat), k ≤ l.length → (∀ j (hj : j < l.length), j < k → l[j].1 < p.1) → (∀ hj : k < l.length, ¬ l[k].1 < p.1) → insR p l = l.take k ++ p :: l.drop k
  | [], k, hk, _, _ => by
    obtain rfl : k = 0 := by simpa using hk
    rfl
  | q :: l, 0, _, _, h2 => by
    have := h2 (Nat.succ_pos _)
    rw [insR, if_neg (by simpa using this)]
    rfl
  | q :: l, k + 1, hk, h1, h2 => by
    have h3 := h1 0 (Nat.succ_pos _) (Nat.succ_pos _)
    rw [insR, if_pos (by simpa using h3), insR_at l k (by simpa using hk) (fun j hj hjk => h1 (j + 1) (by simpa using hj) (by omega)) (fun hj => h2 (by simpa using hj))]
    rfl
theorem putR_had {l : List (Int × ByteArray)} {p : Int × ByteArray} (h : (firstOf l p.1).isSome = true) : putR l p = l := by unfold putR; rw [if_pos h]
theorem putR_new {l : List (Int × ByteArray)} {p : Int × ByteArray} (h : (firstOf l p.1).isSome = false) : putR l p = insR p l := by unfold putR; rw [if_neg (by simp [h])]

theorem URow.cap {w : World} {A : Option Addr} {c : Nat} {ps : List (Int × ByteArray)} (h : URow w A c ps) : ps.length ≤ c := by
  obtain ⟨A', c', he, hc⟩ := own_slice h
  injection he with _ _ h3
  subst h3; exact hc
/-- A row of puts, cut in two. -/
theorem URow.cut {w : World} {A : Option Addr} {c : Nat} {ps : List (Int × ByteArray)} (h : URow w A c ps) (j : Nat) (hj : j ≤ ps.length) :
    (∀ W : World, (Instr.slice 23 (.slice A ps.length c) none (some (.int .i64 (j : Int))) none).run Try.prog W = .ok (.slice A j c) W) ∧ (∀ w', Reads w' 2 A ps.length (pks ps) → Reads w' 2 A j (pks (ps.take j))) ∧
    ∃ A', (∀ W : World, (Instr.slice 23 (.slice A ps.length c) (some (.int .i64 (j : Int))) none none).run Try.prog W = .ok (.slice A' (ps.length - j) (c - j)) W) ∧ (∀ w', Reads w' 2 A ps.length (pks ps) → Reads w' 2 A' (ps.length - j) (pks (ps.drop j))) := by
  obtain ⟨i0, hi, hz0, hz1, hz2⟩ := info_parts info_put
  obtain ⟨t1, t2⟩ := cut_to (P := Try.prog) 23 35 Try.underlying23 hi 2 A ps.length c j hj h.cap
  obtain ⟨A', t3, t4⟩ := cut_from (P := Try.prog) 23 35 Try.underlying23 hi 2 A ps.length c hz1 j hj h.cap
  exact ⟨t1, fun w' hr => by have := t2 w' _ hr; rwa [pks_take] at this, A', t3, fun w' hr => by have := t4 w' _ hr; rwa [pks_drop] at this⟩

set_option maxHeartbeats 4000000 in
set_option maxRecDepth 100000 in
theorem refThen_any (w : World) (A B : Option Addr) (a b : List (Int × ByteArray)) (c d : Nat) (hr : Reads w 2 A a.length (pks a)) (hs : Reads w 2 B b.length (pks b)) (ha : a.length ≤ 1000) (hb : b.length ≤ 1000) :
    Calls Try.prog 9 #[.slice A a.length c, .slice B b.length d] w fun e w' => ∃ A1 c1, e = .returned (.slice A1 (thenL a b).length c1) ∧ PutOut w w' A1 c1 (thenL a b) := by
  have Hr := Lib.hid hr
  have Hs := Lib.hid hs
  clear hr hs
  go_enter Try.func9, Try.ntmps9
  go_wp2_with (at_builtin; refine wpList_append_put rfl (.tmp 12) (.tmp 13) rfl none 0 [] rfl (URow.nil _) B d b b.length rfl rfl Hs.out (by simp; omega) ?_)
  intro A1 c1 w1 hrow hchg hblk
  have H1 : Hid (PutOut w w1 A1 c1 b) := Lib.hid ((PutOut.nil w).grow (by simpa using hrow) hchg (fun k hk => (hblk k hk).elim .inl (fun h => .inr (by omega))))
  clear hrow hchg hblk
  go_wp2_with (at_builtin; refine wpList_append_put rfl (.tmp 15) (.tmp 16) rfl A1 c1 b rfl H1.out.1 A c a a.length rfl rfl (Hr.out.below H1.out.2.2) (by omega) ?_)
  intro A2 c2 w2 hrow hchg hblk
  have H2 : Hid (PutOut w w2 A2 c2 (b ++ a)) := Lib.hid (H1.out.grow hrow hchg (fun k hk => (hblk k hk).elim .inl (fun h => .inr (by have := H1.out.2.2.size; omega))))
  have HLn : Hid (b.length + a.length = (b ++ a).length) := Lib.hid (by simp)
  have HL : Hid (∃ l, l = b ++ a ∧ l.length ≤ 2000 ∧ l.foldl putR [] = thenL a b) := Lib.hid ⟨_, rfl, by simp; omega, rfl⟩
  generalize b ++ a = all at H2 HL HLn ⊢
  have hal : all.length ≤ 2000 := by obtain ⟨l, rfl, h, _⟩ := HL.out; exact h
  have HD0 : Hid (all.foldl putR [] = thenL a b) := Lib.hid (by obtain ⟨l, rfl, _, h⟩ := HL.out; exact h)
  have hln := HLn.out
  rw [hln]
  clear hrow hchg hblk H1 HL HLn hln
  go_wp2_with fail
  go_loopw [6, 7] (fun v i wr => ∃ (k : Nat) (A3 : Option Addr) (c3 : Nat) (ps : List (Int × ByteArray)), k ≤ all.length ∧ v = .slice A3 ps.length c3 ∧ i = .int .i64 k ∧ Hid (ps.length ≤ k) ∧ Hid ((all.drop k).foldl putR ps = thenL a b) ∧ Hid (PutOut w wr A3 c3 ps) ∧ Hid (Reads wr 2 A2 all.length (pks all))) (fun _ i _ => all.length - (intOf i).toNat)
  case atStart => exact ⟨0, none, 0, [], Nat.zero_le _, rfl, rfl, Lib.hid (Nat.zero_le _), HD0, Lib.hid ⟨URow.nil _, by simp [blk], H2.out.2.2⟩, Lib.hid H2.out.1.reads⟩
  case round =>
    clear H2 HD0
    obtain ⟨k, A3, c3, ps, hk, rfl, rfl, Hp, HD, HP, HA⟩ := hrel
    obtain ⟨wo, rfl⟩ : ∃ wo : World, wo = wr := ⟨_, rfl⟩
    by_cases hlt : k < all.length
    · obtain ⟨ad, rfl, d0, d1⟩ := put_cells HA.out hlt
      rw [drop_at hlt, List.foldl_cons] at HD
      have HK := Lib.hid (show ∀ w', Reads w' 2 (some ad) all.length (pks all) → w'.cell? (ad.add (k * 2)) = some (.int .i64 all[k].1) ∧ w'.cell? ⟨(ad.add (k * 2)).block, (ad.add (k * 2)).off + 1, none⟩ = some (.string all[k].2) from fun w' h => by
        obtain ⟨ad', e, h0, h1⟩ := put_cells h hlt
        injection e with e
        subst e
        exact ⟨h0, h1⟩)
      generalize all[k] = p at d0 d1 HD HK
      obtain ⟨x, s⟩ := p
      simp only at d0 d1 HK
      have HF := Lib.hid (refFind_any wo A3 ps c3 x HP.out.1.reads (by have := Hp.out; omega))
      cases h1 : (firstOf ps x).isSome with
      | true =>
        rw [h1] at HF
        rw [putR_had (p := (x, s)) h1] at HD
        clear h1
        go_wp2_with fail
        refine HF.out.mono ?_
        rintro e w3 ⟨y, s', rfl, hb3⟩
        obtain ⟨hb4, hg4, hs4⟩ := alloc1 w3 #[.int .i64 y, .string s'] 35
        have HB4 := Lib.hid (show Below wo.heap.size wo _ from hb3.trans (hb4.mono (B' := wo.heap.size) hb3.size))
        clear hb3 hb4 hg4 hs4
        go_wp2_with fail
        case roundEnd =>
          exact ⟨⟨k + 1, A3, c3, ps, by omega, rfl, by push_cast; rfl, Lib.hid (by have := Hp.out; omega), HD, Lib.hid (HP.out.keep HB4.out), Lib.hid (HA.out.below HB4.out)⟩, by simp only [intOf]; omega⟩
      | false =>
        rw [h1] at HF
        rw [putR_new (p := (x, s)) h1] at HD
        clear h1
        go_wp2_with fail
        refine HF.out.mono ?_
        rintro e w3 ⟨y, s', rfl, hb3⟩
        obtain ⟨hb4, hg4, hs4⟩ := alloc1 w3 #[.int .i64 y, .string s'] 35
        have HB4 := Lib.hid (show Below wo.heap.size wo _ from hb3.trans (hb4.mono (B' := wo.heap.size) hb3.size))
        clear hb3 hb4 hg4 hs4 HF
        go_wp2_with fail
        go_loopw [10] (fun i wr => ∃ j : Nat, j ≤ ps.length ∧ i = .int .i64 j ∧ Hid (∀ m (hm : m < ps.length), m < j → ps[m].1 < x) ∧ Hid (Below wo.heap.size wo wr)) (fun i _ => ps.length - (intOf i).toNat)
        case atStart => exact ⟨0, Nat.zero_le _, rfl, Lib.hid (fun m _ hm => by omega), HB4⟩
        case round =>
          clear HB4
          obtain ⟨j, hj, rfl, HJ, HB⟩ := hrel
          have hpl : ps.length ≤ 2000 := by have := Hp.out; omega
          have hjb : j ≤ 2000 := Nat.le_trans hj hpl
          have HAi := Lib.hid (HA.out.below HB.out)
          have HPi := Lib.hid (HP.out.keep HB.out)
          clear d0 d1 HA
          have hbd : Below wr.heap.size wr wr.drew := (Below.refl _ _).drew
          have HBd := Lib.hid (HB.out.trans (hbd.mono (B' := wo.heap.size) HB.out.size))
          clear hbd
          have HAd := Lib.hid (show Reads wr.drew 2 (some ad) all.length (pks all) from HAi.out.drew)
          have HX := Lib.hid (show wr.drew.cell? (ad.add (k * 2)) = some (.int .i64 x) ∧ wr.drew.cell? ⟨(ad.add (k * 2)).block, (ad.add (k * 2)).off + 1, none⟩ = some (.string s) from HK.out wr.drew HAd.out)
          by_cases hjl : j < ps.length
          · obtain ⟨od, rfl, e0, e1⟩ := put_cells HPi.out.1.reads hjl
            have q0 := fun w' (hk : KeepsBut [] wr.drew w') => hk.cell (p := od.add (j * 2)) e0 (by simp)
            have q1 := fun w' (hk : KeepsBut [] wr.drew w') => hk.cell (p := ad.add (k * 2)) HX.out.1 (by simp)
            by_cases hjx : ps[j].1 < x
            · have HJ2 := Lib.hid (show ∀ m (hm : m < ps.length), m < j + 1 → ps[m].1 < x from fun m hm hmj => by
                by_cases h : m = j
                · subst h; exact hjx
                · exact HJ.out m hm (by omega))
              generalize ps[j] = q at e0 e1 q0 hjx
              obtain ⟨z, zs⟩ := q
              simp only at e0 e1 q0 hjx
              go_wp2_with fail
              refine wp_region_mix3 (KeepsBut []) (KeepsBut.refl []) (KeepsBut.trans []) [] [(0, 0), (0, 1), (0, 2), (0, 3), (0, 4), (0, 5), (0, 6), (0, 7), (0, 8), (0, 10), (0, 11), (0, 12), (0, 13), (1, 9), (1, 14), (0, 15), (0, 16)] (by kernel_rfl) (by kernel_rfl) (fun d _ _ _ _ h => by cases d <;> exact h) ?_
              have g0 : decide ((j : Int) < (ps.length : Int)) = true := decide_eq_true (by omega)
              have g1 : decide (z < x) = true := decide_eq_true hjx
              repeat (first
                | (refine mix3_free (v := ?_) rfl rfl ?_ (mix3_norm (a' := ?_) ?_ ?_)
                   rotate_left
                   focus (intro w'; go_simp; first | done | (with_reducible rfl))
                   rotate_left
                   focus (simp only [Act.put, List.getElem_toArray, List.getElem_cons_zero, List.getElem_cons_succ, List.setIfInBounds_toArray, List.set_cons_zero, List.set_cons_succ]; rfl))
                | (refine mix3_pure (v := ?_) rfl rfl ?_ (mix3_norm (a' := ?_) ?_ ?_)
                   rotate_left
                   focus (intro w' hR; go_simp; first | done | (with_reducible rfl))
                   rotate_left
                   focus (simp only [Act.put, List.getElem_toArray, List.getElem_cons_zero, List.getElem_cons_succ, List.setIfInBounds_toArray, List.set_cons_zero, List.set_cons_succ]; rfl))
                | (refine mix3_freeOff rfl rfl (mix3_norm (a' := ?_) ?_ ?_)
                   rotate_left
                   focus (simp only [Act.put, List.getElem_toArray, List.getElem_cons_zero, List.getElem_cons_succ, List.setIfInBounds_toArray, List.set_cons_zero, List.set_cons_succ]; rfl))
                | (refine mix3_off rfl rfl (mix3_norm (a' := ?_) ?_ ?_)
                   rotate_left
                   focus (simp only [Act.put, List.getElem_toArray, List.getElem_cons_zero, List.getElem_cons_succ, List.setIfInBounds_toArray, List.set_cons_zero, List.set_cons_succ]; rfl)))
              refine mix3_done ?_
              clear q0 q1 e0 e1 g0 g1
              go_wp2_with fail
              case roundEnd =>
                exact ⟨⟨j + 1, by omega, by push_cast; rfl, HJ2, HBd⟩, by simp only [intOf]; omega⟩
            · have HI := Lib.hid (insR_at (p := (x, s)) ps j hj HJ.out (fun _ => hjx))
              generalize ps[j] = q at e0 e1 q0 hjx
              obtain ⟨z, zs⟩ := q
              simp only at e0 e1 q0 hjx
              go_wp2_with fail
              refine wp_region_mix3 (KeepsBut []) (KeepsBut.refl []) (KeepsBut.trans []) [] [(0, 0), (0, 1), (0, 2), (0, 3), (0, 4), (0, 5), (0, 6), (0, 7), (0, 8), (0, 10), (0, 11), (0, 12), (0, 13), (1, 9), (1, 14), (0, 15), (0, 16)] (by kernel_rfl) (by kernel_rfl) (fun d _ _ _ _ h => by cases d <;> exact h) ?_
              have g0 : decide ((j : Int) < (ps.length : Int)) = true := decide_eq_true (by omega)
              have g1 : decide (z < x) = false := decide_eq_false (by omega)
              repeat (first
                | (refine mix3_free (v := ?_) rfl rfl ?_ (mix3_norm (a' := ?_) ?_ ?_)
                   rotate_left
                   focus (intro w'; go_simp; first | done | (with_reducible rfl))
                   rotate_left
                   focus (simp only [Act.put, List.getElem_toArray, List.getElem_cons_zero, List.getElem_cons_succ, List.setIfInBounds_toArray, List.set_cons_zero, List.set_cons_succ]; rfl))
                | (refine mix3_pure (v := ?_) rfl rfl ?_ (mix3_norm (a' := ?_) ?_ ?_)
                   rotate_left
                   focus (intro w' hR; go_simp; first | done | (with_reducible rfl))
                   rotate_left
                   focus (simp only [Act.put, List.getElem_toArray, List.getElem_cons_zero, List.getElem_cons_succ, List.setIfInBounds_toArray, List.set_cons_zero, List.set_cons_succ]; rfl))
                | (refine mix3_freeOff rfl rfl (mix3_norm (a' := ?_) ?_ ?_)
                   rotate_left
                   focus (simp only [Act.put, List.getElem_toArray, List.getElem_cons_zero, List.getElem_cons_succ, List.setIfInBounds_toArray, List.set_cons_zero, List.set_cons_succ]; rfl))
                | (refine mix3_off rfl rfl (mix3_norm (a' := ?_) ?_ ?_)
                   rotate_left
                   focus (simp only [Act.put, List.getElem_toArray, List.getElem_cons_zero, List.getElem_cons_succ, List.setIfInBounds_toArray, List.set_cons_zero, List.set_cons_succ]; rfl)))
              refine mix3_done ?_
              clear q0 q1 e0 e1 g0 g1
              have HPd := Lib.hid (HP.out.keep HBd.out)
              obtain ⟨t1, t2, A4, t3, t4⟩ := HPd.out.1.cut j hj
              have T2 := Lib.hid t2
              have T4 := Lib.hid t4
              have Hr0 := Lib.hid HPd.out.1.reads
              clear t2 t4 HPi HAi HJ HB
              go_wp2_with (at_builtin; refine wpList_append_put rfl (.tmp 54) (.tmp 57) rfl none 0 [] rfl (URow.nil _) _ c3 (ps.take j) j (by rw [List.length_take]; omega) rfl (T2.out _ Hr0.out) (by simp; omega) ?_)
              intro A6 c6 w6 hrow hchg hblk
              have HQ6 := Lib.hid ((PutOut.nil wr.drew).grow hrow hchg (fun m hm => (hblk m hm).elim .inl (fun h => .inr (Nat.le_of_eq h.symm))))
              have hl6 : (ps.take j).length = j := by rw [List.length_take]; omega
              have HE1 : Hid (insR (x, s) ps = ps.take j ++ [(x, s)] ++ ps.drop j) := Lib.hid (by rw [HI.out, List.append_assoc]; rfl)
              generalize hq1 : ps.take j = q1 at HQ6 HE1 hl6
              have HA6 := Lib.hid (HAd.out.below HQ6.out.2.2)
              have HA9 := HAd
              obtain ⟨d0, d1⟩ := HK.out w6 HA6.out
              have HX6 := Lib.hid (show URow (w6.alloc (.cells #[.int .i64 x, .string s] 35)) A6 c6 q1 ∧ Reads (w6.alloc (.cells #[.int .i64 x, .string s] 35)) 2 (some ⟨w6.heap.size, 0, none⟩) 1 (pks [(x, s)]) from
                ⟨HQ6.out.1.below ((Below.refl _ _).alloc (Nat.le_refl _) _), Reads.of_block (n := 1) (heap_alloc_new _ _) rfl⟩)
              clear hq1 hrow hchg hblk HAd HX
              go_wp2_with (at_builtin; refine wpList_append_put rfl (.tmp 59) (.tmp 64) rfl A6 c6 q1 (by rw [hl6]; rfl) HX6.out.1 (some ⟨w6.heap.size, 0, none⟩) 1 [(x, s)] 1 rfl rfl HX6.out.2 (by omega) ?_)
              intro A7 c7 w7 hrow hchg hblk
              have hC : Chg (fun i => blk A6 = some i) w6 w7 := ((Chg.refl (fun i => blk A6 = some i) w6).alloc _).trans hchg (fun _ _ h => h)
              have HQ7 := Lib.hid (HQ6.out.grow hrow hC (fun k hk => by
                rcases hblk k hk with h | h
                · exact .inl h
                · right; have := HQ6.out.2.2.size; omega))
              have hl7 : (q1 ++ [(x, s)]).length = j + 1 := by rw [List.length_append, hl6]; rfl
              generalize hq2 : q1 ++ [(x, s)] = q2 at HQ7 HE1 hl7
              have Hr7 := Lib.hid (Hr0.out.below HQ7.out.2.2)
              clear hq2 hrow hchg hblk hC HX6 HQ6 d0 d1 HA6 hl6 HI t1 T2
              go_wp2_with (at_builtin; refine wpList_append_put rfl (.tmp 66) (.tmp 69) rfl A7 c7 q2 (by rw [hl7]; rfl) HQ7.out.1 A4 (c3 - j) (ps.drop j) (ps.length - j) (by rw [List.length_drop]) rfl (T4.out _ Hr7.out) (by omega) ?_)
              intro A8 c8 w8 hrow hchg hblk
              have HQ8 := Lib.hid (HQ7.out.grow hrow hchg (fun k hk => by
                rcases hblk k hk with h | h
                · exact .inl h
                · right; have := HQ7.out.2.2.size; omega))
              have HL8 : Hid ((insR (x, s) ps).length = j + 1 + (ps.length - j)) := Lib.hid (by rw [HE1.out, List.length_append, hl7, List.length_drop])
              rw [← HE1.out] at HQ8
              have HO8 : Hid (PutOut w w8 A8 c8 (insR (x, s) ps)) := Lib.hid ⟨HQ8.out.1, fun m hm => Nat.le_trans HPd.out.2.2.size (HQ8.out.2.1 m hm), HPd.out.2.2.trans (HQ8.out.2.2.mono (B' := w.heap.size) HPd.out.2.2.size)⟩
              have HA8 := Lib.hid (show Reads w8 2 (some ad) all.length (pks all) from (HA9.out.below HQ8.out.2.2))
              clear hrow hchg hblk HQ7 HQ8 Hr7 HE1 t3 T4
              go_wp2_with fail
              case roundEnd =>
                exact ⟨⟨k + 1, A8, c8, insR (x, s) ps, by omega, by rw [HL8.out], by push_cast; rfl, Lib.hid (by rw [HL8.out]; have := Hp.out; omega), HD, HO8, HA8⟩, by simp only [intOf]; omega⟩
          · have HI := Lib.hid (insR_at (p := (x, s)) ps j hj HJ.out (fun h => absurd h hjl))
            go_wp2_with fail
            refine wp_region_mix3 (KeepsBut []) (KeepsBut.refl []) (KeepsBut.trans []) [] [(0, 0), (0, 1), (0, 2), (0, 3), (0, 4), (0, 5), (0, 6), (0, 7), (0, 8), (0, 10), (0, 11), (0, 12), (0, 13), (1, 9), (1, 14), (0, 15), (0, 16)] (by kernel_rfl) (by kernel_rfl) (fun d _ _ _ _ h => by cases d <;> exact h) ?_
            have g0 : decide ((j : Int) < (ps.length : Int)) = false := decide_eq_false (by omega)
            repeat (first
              | (refine mix3_free (v := ?_) rfl rfl ?_ (mix3_norm (a' := ?_) ?_ ?_)
                 rotate_left
                 focus (intro w'; go_simp; first | done | (with_reducible rfl))
                 rotate_left
                 focus (simp only [Act.put, List.getElem_toArray, List.getElem_cons_zero, List.getElem_cons_succ, List.setIfInBounds_toArray, List.set_cons_zero, List.set_cons_succ]; rfl))
              | (refine mix3_pure (v := ?_) rfl rfl ?_ (mix3_norm (a' := ?_) ?_ ?_)
                 rotate_left
                 focus (intro w' hR; go_simp; first | done | (with_reducible rfl))
                 rotate_left
                 focus (simp only [Act.put, List.getElem_toArray, List.getElem_cons_zero, List.getElem_cons_succ, List.setIfInBounds_toArray, List.set_cons_zero, List.set_cons_succ]; rfl))
              | (refine mix3_freeOff rfl rfl (mix3_norm (a' := ?_) ?_ ?_)
                 rotate_left
                 focus (simp only [Act.put, List.getElem_toArray, List.getElem_cons_zero, List.getElem_cons_succ, List.setIfInBounds_toArray, List.set_cons_zero, List.set_cons_succ]; rfl))
              | (refine mix3_off rfl rfl (mix3_norm (a' := ?_) ?_ ?_)
                 rotate_left
                 focus (simp only [Act.put, List.getElem_toArray, List.getElem_cons_zero, List.getElem_cons_succ, List.setIfInBounds_toArray, List.set_cons_zero, List.set_cons_succ]; rfl)))
            refine mix3_done ?_
            clear g0
            have HPd := Lib.hid (HP.out.keep HBd.out)
            obtain ⟨t1, t2, A4, t3, t4⟩ := HPd.out.1.cut j hj
            have T2 := Lib.hid t2
            have T4 := Lib.hid t4
            have Hr0 := Lib.hid HPd.out.1.reads
            clear t2 t4 HPi HAi HJ HB
            go_wp2_with (at_builtin; refine wpList_append_put rfl (.tmp 54) (.tmp 57) rfl none 0 [] rfl (URow.nil _) _ c3 (ps.take j) j (by rw [List.length_take]; omega) rfl (T2.out _ Hr0.out) (by simp; omega) ?_)
            intro A6 c6 w6 hrow hchg hblk
            have HQ6 := Lib.hid ((PutOut.nil wr.drew).grow hrow hchg (fun m hm => (hblk m hm).elim .inl (fun h => .inr (Nat.le_of_eq h.symm))))
            have hl6 : (ps.take j).length = j := by rw [List.length_take]; omega
            have HE1 : Hid (insR (x, s) ps = ps.take j ++ [(x, s)] ++ ps.drop j) := Lib.hid (by rw [HI.out, List.append_assoc]; rfl)
            generalize hq1 : ps.take j = q1 at HQ6 HE1 hl6
            have HA6 := Lib.hid (HAd.out.below HQ6.out.2.2)
            have HA9 := HAd
            obtain ⟨d0, d1⟩ := HK.out w6 HA6.out
            have HX6 := Lib.hid (show URow (w6.alloc (.cells #[.int .i64 x, .string s] 35)) A6 c6 q1 ∧ Reads (w6.alloc (.cells #[.int .i64 x, .string s] 35)) 2 (some ⟨w6.heap.size, 0, none⟩) 1 (pks [(x, s)]) from
              ⟨HQ6.out.1.below ((Below.refl _ _).alloc (Nat.le_refl _) _), Reads.of_block (n := 1) (heap_alloc_new _ _) rfl⟩)
            clear hq1 hrow hchg hblk HAd HX
            go_wp2_with (at_builtin; refine wpList_append_put rfl (.tmp 59) (.tmp 64) rfl A6 c6 q1 (by rw [hl6]; rfl) HX6.out.1 (some ⟨w6.heap.size, 0, none⟩) 1 [(x, s)] 1 rfl rfl HX6.out.2 (by omega) ?_)
            intro A7 c7 w7 hrow hchg hblk
            have hC : Chg (fun i => blk A6 = some i) w6 w7 := ((Chg.refl (fun i => blk A6 = some i) w6).alloc _).trans hchg (fun _ _ h => h)
            have HQ7 := Lib.hid (HQ6.out.grow hrow hC (fun k hk => by
              rcases hblk k hk with h | h
              · exact .inl h
              · right; have := HQ6.out.2.2.size; omega))
            have hl7 : (q1 ++ [(x, s)]).length = j + 1 := by rw [List.length_append, hl6]; rfl
            generalize hq2 : q1 ++ [(x, s)] = q2 at HQ7 HE1 hl7
            have Hr7 := Lib.hid (Hr0.out.below HQ7.out.2.2)
            clear hq2 hrow hchg hblk hC HX6 HQ6 d0 d1 HA6 hl6 HI t1 T2
            go_wp2_with (at_builtin; refine wpList_append_put rfl (.tmp 66) (.tmp 69) rfl A7 c7 q2 (by rw [hl7]; rfl) HQ7.out.1 A4 (c3 - j) (ps.drop j) (ps.length - j) (by rw [List.length_drop]) rfl (T4.out _ Hr7.out) (by omega) ?_)
            intro A8 c8 w8 hrow hchg hblk
            have HQ8 := Lib.hid (HQ7.out.grow hrow hchg (fun k hk => by
              rcases hblk k hk with h | h
              · exact .inl h
              · right; have := HQ7.out.2.2.size; omega))
            have HL8 : Hid ((insR (x, s) ps).length = j + 1 + (ps.length - j)) := Lib.hid (by rw [HE1.out, List.length_append, hl7, List.length_drop])
            rw [← HE1.out] at HQ8
            have HO8 : Hid (PutOut w w8 A8 c8 (insR (x, s) ps)) := Lib.hid ⟨HQ8.out.1, fun m hm => Nat.le_trans HPd.out.2.2.size (HQ8.out.2.1 m hm), HPd.out.2.2.trans (HQ8.out.2.2.mono (B' := w.heap.size) HPd.out.2.2.size)⟩
            have HA8 := Lib.hid (show Reads w8 2 (some ad) all.length (pks all) from (HA9.out.below HQ8.out.2.2))
            clear hrow hchg hblk HQ7 HQ8 Hr7 HE1 t3 T4
            go_wp2_with fail
            case roundEnd =>
              exact ⟨⟨k + 1, A8, c8, insR (x, s) ps, by omega, by rw [HL8.out], by push_cast; rfl, Lib.hid (by rw [HL8.out]; have := Hp.out; omega), HD, HO8, HA8⟩, by simp only [intOf]; omega⟩
    · obtain rfl : k = all.length := by omega
      have HF : Hid (ps = thenL a b) := Lib.hid (by have h := HD.out; rw [List.drop_length] at h; exact h)
      go_wp2_with fail
      go_ret
      exact ⟨A3, c3, by rw [← HF.out]; rfl, by rw [← HF.out]; exact HP.out⟩
end Go.Proofs.Ytjlecfckcciagaa
