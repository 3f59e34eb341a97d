/- Arks: the reference's bytes of an image. -/
import Derived.Test.YtcahflddafdhfaaArk6
import Derived.Test.YtcahflddafdhfaaCrcRef
import Derived.Test.YtcahflddafdhfaaText
import Derived.Test.YtcahflddafdhfaaMix3
open Go.RowKit
namespace Go.Proofs.Ytcahflddafdhfaa

theorem addS (a b : ByteArray) (h : a.size + b.size ≤ 9223372036854775807) : ∀ W : World, (Op.stringOp .add a b).run Try.prog W = .ok (.string (a ++ b)) W := fun W => run_string_add_sum W a b h
theorem ts1 (n : Nat) : (txt 1 n).size = 1 := txt_size 1 n (by omega) (by omega)
theorem ts2 (n : Nat) : (txt 2 n).size = 2 := txt_size 2 n (by omega) (by omega)
theorem ts4 (n : Nat) : (txt 4 n).size = 4 := txt_size 4 n (by omega) (by omega)
theorem tb1 (n : Nat) : bl (txt 1 n) = be 1 n := bl_txt 1 n (by omega) (by omega)
theorem tb2 (n : Nat) : bl (txt 2 n) = be 2 n := bl_txt 2 n (by omega) (by omega)
theorem tb4 (n : Nat) : bl (txt 4 n) = be 4 n := bl_txt 4 n (by omega) (by omega)
theorem ark_len {l : List ByteArray} (h : packE l = 0) : (arkBody l).length ≤ 10000 := by
  have h1 : ¬ 128 < l.length := fun h1 => by unfold packE at h; rw [if_pos h1] at h; cases h
  have h2 : oddB l = false := by
    unfold packE at h
    rw [if_neg h1] at h
    cases ho : oddB l with
    | false => rfl
    | true => rw [ho] at h; cases h
  exact arkHead_len l l.length (runsOf l) (fun y hy => Nat.le_of_eq (oddB_no h2 _ (runsOf_mem l y hy).1)) (Nat.le_trans (runsOf_length l) (by omega))
set_option maxHeartbeats 4000000 in
set_option maxRecDepth 100000 in
theorem refArkPack_any (A : Option Addr) (ls : List ByteArray) (c : Nat) (w : World) (hr : Reads w 1 A ls.length (sts ls)) (hl : ls.length ≤ 1000000) :
    Calls Try.prog 12 #[.slice A ls.length c] w fun e w' => ∃ s, e = .returned (.tuple #[.string s, .int .i64 (packE ls : Nat)]) ∧ bl s = packL ls ∧ Below w.heap.size w w' := by
  have Hr := Lib.hid hr
  clear hr
  by_cases h1 : 128 < ls.length
  · have HE := Lib.hid (show packE ls = 8 ∧ packL ls = [] by
      have h : packE ls = 8 := by unfold packE; rw [if_pos h1]
      exact ⟨h, by unfold packL; rw [if_neg (by rw [h]; decide)]⟩)
    go_enter Try.func12, Try.ntmps12
    go_wp2_with fail
    go_ret2
    exact ⟨⟨#[]⟩, by rw [HE.out.1]; rfl, by rw [HE.out.2]; rfl, Below.refl _ _⟩
  go_enter Try.func12, Try.ntmps12
  go_wp2_with fail
  go_loopw [4] (fun i wr => ∃ k : Nat, k ≤ ls.length ∧ i = .int .i64 k ∧ Hid (oddB (ls.drop k) = oddB ls) ∧ Hid (w = wr)) (fun i _ => ls.length - (intOf i).toNat)
  case atStart => exact ⟨0, Nat.zero_le _, rfl, Lib.hid rfl, Lib.hid rfl⟩
  case round =>
    obtain ⟨k, hk, rfl, HO, Hw⟩ := hrel
    have hw := Hw.out
    subst hw
    by_cases hlt : k < ls.length
    · obtain ⟨ad, rfl, d0⟩ := str_cell Hr.out hlt
      rw [drop_at hlt, oddB_cons] at HO
      generalize ls[k] = s at d0 HO
      have HS := Lib.hid (refSecRight_any s w)
      cases h3 : rightS s with
      | false =>
        rw [h3] at HS HO
        have HE := Lib.hid (show packE ls = 4 ∧ packL ls = [] by
          have h : packE ls = 4 := by unfold packE; rw [if_neg h1, if_pos (show oddB ls = true from HO.out.symm)]
          exact ⟨h, by unfold packL; rw [if_neg (by rw [h]; decide)]⟩)
        clear h3
        go_wp2_with fail
        refine HS.out.mono ?_
        rintro e w3 ⟨rfl, rfl⟩
        go_wp2_with fail
        go_ret2
        exact ⟨⟨#[]⟩, by rw [HE.out.1]; rfl, by rw [HE.out.2]; rfl, Below.refl _ _⟩
      | true =>
        rw [h3] at HS HO
        clear h3
        go_wp2_with fail
        refine HS.out.mono ?_
        rintro e w3 ⟨rfl, rfl⟩
        go_wp2_with fail
        case roundEnd =>
          exact ⟨⟨k + 1, by omega, by push_cast; rfl, Lib.hid (by have := HO.out; simpa using this), Lib.hid (by trivial)⟩, by simp only [intOf]; omega⟩
    · obtain rfl : k = ls.length := by omega
      have HE := Lib.hid (show packE ls = 0 ∧ packL ls = arkBody ls ++ be 4 (crcAdd 0 (arkBody ls)) by
        have ho : oddB ls = false := by rw [← HO.out, List.drop_length]; rfl
        have h : packE ls = 0 := by unfold packE; rw [if_neg h1, ho]; rfl
        exact ⟨h, by unfold packL; rw [if_pos h]⟩)
      have HBl := Lib.hid (ark_len HE.out.1)
      have hwl := wrapN (n := ls.length) (by omega)
      have HZ := Lib.hid (show (⟨#[65, 82, 75, 49]⟩ : ByteArray).size + (txt 2 ls.length).size ≤ 10 by
        rw [ts2]; decide)
      have ha := addS ⟨#[65, 82, 75, 49]⟩ (txt 2 ls.length) (by have := HZ.out; omega)
      clear HO Hw
      go_wp2_with fail
      refine (text_any 2 ls.length (by omega) _).mono ?_
      rintro e w1 ⟨rfl, hb⟩
      have HB := Lib.hid hb
      clear hb
      go_wp2_with fail
      clear ha hwl
      have HT0 := Lib.hid (show bl ((⟨#[65, 82, 75, 49]⟩ : ByteArray) ++ txt 2 ls.length) = arkMark ++ be 2 ls.length by
        rw [bl_append, tb2]; rfl)
      generalize (⟨#[65, 82, 75, 49]⟩ : ByteArray) ++ txt 2 ls.length = T0 at HT0 ⊢
      go_loopw [5, 6] (fun s i wr => ∃ k S, k ≤ ls.length ∧ s = .string S ∧ i = .int .i64 (k : Nat) ∧ Hid (bl S ++ runBytes (runsOf (ls.drop k)) = arkBody ls) ∧ Hid (Below w.heap.size w wr)) (fun _ i _ => ls.length - (intOf i).toNat)
      case atStart => exact ⟨0, T0, Nat.zero_le _, rfl, rfl, Lib.hid (by rw [HT0.out]; rfl), HB⟩
      case round =>
        obtain ⟨k, S, hk, rfl, rfl, HP, HB2⟩ := hrel
        have HSz := Lib.hid (show S.size ≤ 10000 by
          have h := congrArg List.length HP.out
          rw [List.length_append, bl_length] at h
          have := HBl.out
          omega)
        obtain ⟨wo, rfl⟩ : ∃ wo : World, wo = wr := ⟨_, rfl⟩
        by_cases hlt : k < ls.length
        · obtain ⟨ad, rfl, d0⟩ := str_cell (Hr.out.below HB2.out) hlt
          clear d0
          obtain ⟨x, hx⟩ : ∃ x, ls[k] = x := ⟨_, rfl⟩
          have HX := Lib.hid (show ls[k]? = some x by rw [List.getElem?_eq_getElem hlt, hx])
          clear hx
          go_wp2_with fail
          go_loopw [7] (fun n wi => ∃ m : Nat, 1 ≤ m ∧ k + m ≤ ls.length ∧ n = .int .i64 m ∧ Hid (∀ j, j < m → ls[k + j]? = some x) ∧ Hid (Below w.heap.size w wi)) (fun n _ => ls.length - (intOf n).toNat)
          case atStart => exact ⟨1, Nat.le_refl _, by omega, rfl, Lib.hid (fun j hj => by
            obtain rfl : j = 0 := by omega
            exact HX.out), HB2⟩
          case round =>
            obtain ⟨m, hm1, hkm, rfl, HA, HB2⟩ := hrel
            obtain ⟨p, hp⟩ : ∃ p, k + m = p := ⟨_, rfl⟩
            have hwp : IntKind.i64.wrap ((k : Int) + (m : Int)) = (p : Int) := by
              have h := wrapI_nat' (n := p) (by omega)
              rw [← h, ← hp]; push_cast; rfl
            have HPp := Lib.hid hp
            by_cases hlt2 : p < ls.length
            · obtain ⟨ad2, h2, hck⟩ := str_cell (Hr.out.below HB2.out) hlt2
              injection h2 with h2
              subst h2
              obtain ⟨ad2, h2, hcx⟩ := str_cell (Hr.out.below HB2.out) hlt
              injection h2 with h2
              subst h2
              have ex : ls[k] = x := Option.some.inj (by rw [← List.getElem?_eq_getElem hlt]; exact HX.out)
              rw [ex] at hcx
              clear ex
              have e2 : ls[p]? = some ls[p] := List.getElem?_eq_getElem hlt2
              generalize ls[p] = y at hck e2
              have E2 := Lib.hid e2
              have hpl : (p : Int) < (ls.length : Int) := by omega
              clear e2 hp
              by_cases hyx : y = x
              · subst hyx
                have HA1 := Lib.hid (show ∀ j, j < m + 1 → ls[k + j]? = some y from fun j hj => by
                  by_cases e : j = m
                  · rw [e, HPp.out, E2.out]
                  · exact HA.out j (by omega))
                have hxx : (y.toList == y.toList) = true := beq_self_eq_true _
                go_wp2_with fail
                go_quiet (fail)
                clear hcx hck hxx
                go_wp2_with fail
                case roundEnd => exact ⟨⟨m + 1, by omega, by have := HPp.out; omega, by push_cast; rfl, HA1, Lib.hid (HB2.out.trans ⟨rfl, rfl, rfl, Nat.le_refl _, fun _ _ => rfl⟩)⟩, by simp only [intOf]; have := HPp.out; omega⟩
              · have HST := Lib.hid (show ls[k + m]? ≠ some x from fun h => by rw [HPp.out, E2.out] at h; exact hyx (Option.some.inj h))
                have hne : (y.toList == x.toList) = false := by rw [beq_eq_false_iff_ne]; exact fun e => hyx (str_inj e)
                clear hyx
                go_wp2_with fail
                go_quiet (fail)
                clear hck hne hcx hwp hpl
                have HB2 := Lib.hid (show Below w.heap.size w (wr.drewN nq) from HB2.out.trans ⟨rfl, rfl, rfl, Nat.le_refl _, fun _ _ => rfl⟩)
                have HSt := Lib.hid (show runsOf (ls.drop k) = (x, m) :: runsOf (ls.drop (k + m)) from by
                  have h0 : 0 < (ls.drop k).length := by rw [List.length_drop]; omega
                  have hx0 : (ls.drop k)[0] = x := Option.some.inj (by rw [← List.getElem?_eq_getElem h0, List.getElem?_drop]; exact HX.out)
                  have h := runsOf_step (l := ls.drop k) h0 hm1 (by rw [List.length_drop]; omega) (fun j hj => by rw [hx0, List.getElem?_drop]; exact HA.out j hj) (by rw [hx0, List.getElem?_drop]; exact HST.out)
                  rw [h, hx0, List.drop_drop])
                have HN := Lib.hid (show bl (S ++ txt 1 m ++ x) ++ runBytes (runsOf (ls.drop (k + m))) = arkBody ls by
                  rw [← HP.out, HSt.out, bl_append, bl_append, tb1]
                  show _ = _ ++ (be 1 m ++ bl x ++ runBytes _)
                  simp only [List.append_assoc])
                have HNz := Lib.hid (show (S ++ txt 1 m ++ x).size ≤ 10000 by
                  have h := congrArg List.length HN.out
                  rw [List.length_append, bl_length] at h
                  have := HBl.out
                  omega)
                have z1 := ts1 m
                have hwm := wrapN (n := m) (by omega)
                have a1 := addS S (txt 1 m) (by have := HSz.out; omega)
                have a2 := addS (S ++ txt 1 m) x (by have := HNz.out; rw [ByteArray.size_append] at this; omega)
                have hwk : IntKind.i64.wrap ((k : Int) + (m : Int)) = ((k + m : Nat) : Int) := by
                  have h := wrapI_nat' (n := k + m) (by omega)
                  rw [← h]; push_cast; rfl
                clear HSt z1
                generalize wr.drewN nq = wc at HB2 ⊢
                go_wp2_with fail
                have HB2 := Lib.hid (show Below w.heap.size w wc.drew from HB2.out.trans ⟨rfl, rfl, rfl, Nat.le_refl _, fun _ _ => rfl⟩)
                have dk : ∀ w', KeepsBut [] wc.drew w' → w'.cell? (ad.add k) = some (.string x) := fun w' h => h.cell (by
                  obtain ⟨ad', h2, h3⟩ := str_cell (Hr.out.below HB2.out) hlt
                  injection h2 with h2
                  subst h2
                  rw [h3]
                  exact congrArg (fun o => some (Value.string o)) (Option.some.inj (by rw [← List.getElem?_eq_getElem hlt]; exact HX.out))) (by simp)
                refine wp_region_mix3 (KeepsBut []) (KeepsBut.refl []) (KeepsBut.trans []) [] [(0, 0), (0, 1), (0, 5), (0, 6), (0, 7), (1, 2), (1, 8), (2, 3), (0, 4), (0, 9), (0, 10)] (by kernel_rfl) (by kernel_rfl) (fun d _ _ _ _ h => by cases d <;> exact h) ?_
                generalize wc.drew = wd at HB2 dk ⊢
                repeat (first
                  | (refine mix3_free (v := ?_) rfl rfl ?_ (mix3_norm (a' := ?_) ?_ ?_)
                     rotate_left
                     focus (intro w'; go_simp; first | done | (with_reducible rfl))
                     rotate_left
                     focus (simp only [Act.put, List.getElem_toArray, List.getElem_cons_zero, List.getElem_cons_succ, List.setIfInBounds_toArray, List.set_cons_zero, List.set_cons_succ]; rfl))
                  | (refine mix3_pure (v := ?_) rfl rfl ?_ (mix3_norm (a' := ?_) ?_ ?_)
                     rotate_left
                     focus (intro w' hR; go_simp; first | done | (with_reducible rfl))
                     rotate_left
                     focus (simp only [Act.put, List.getElem_toArray, List.getElem_cons_zero, List.getElem_cons_succ, List.setIfInBounds_toArray, List.set_cons_zero, List.set_cons_succ]; rfl))
                  | (refine mix3_freeOff rfl rfl (mix3_norm (a' := ?_) ?_ ?_)
                     rotate_left
                     focus (simp only [Act.put, List.getElem_toArray, List.getElem_cons_zero, List.getElem_cons_succ, List.setIfInBounds_toArray, List.set_cons_zero, List.set_cons_succ]; rfl))
                  | (refine mix3_off rfl rfl (mix3_norm (a' := ?_) ?_ ?_)
                     rotate_left
                     focus (simp only [Act.put, List.getElem_toArray, List.getElem_cons_zero, List.getElem_cons_succ, List.setIfInBounds_toArray, List.set_cons_zero, List.set_cons_succ]; rfl)))
                clear dk
                refine mix3_eff rfl ?_
                simp only [List.getElem_toArray, List.getElem_cons_zero, List.getElem_cons_succ]
                go_wp2_with fail
                refine (text_any 1 m (by omega) _).mono ?_
                rintro e w4 ⟨rfl, hb⟩
                have HB2 := Lib.hid (HB2.out.trans (hb.mono HB2.out.size))
                go_wp2_with fail
                refine mixQ3_normal (KeepsBut.of_below hb) rfl ?_
                clear hb
                repeat (first
                  | (refine mix3_free (v := ?_) rfl rfl ?_ (mix3_norm (a' := ?_) ?_ ?_)
                     rotate_left
                     focus (intro w'; go_simp; first | done | (with_reducible rfl))
                     rotate_left
                     focus (simp only [Act.put, List.getElem_toArray, List.getElem_cons_zero, List.getElem_cons_succ, List.setIfInBounds_toArray, List.set_cons_zero, List.set_cons_succ]; rfl))
                  | (refine mix3_pure (v := ?_) rfl rfl ?_ (mix3_norm (a' := ?_) ?_ ?_)
                     rotate_left
                     focus (intro w' hR; go_simp; first | done | (with_reducible rfl))
                     rotate_left
                     focus (simp only [Act.put, List.getElem_toArray, List.getElem_cons_zero, List.getElem_cons_succ, List.setIfInBounds_toArray, List.set_cons_zero, List.set_cons_succ]; rfl))
                  | (refine mix3_freeOff rfl rfl (mix3_norm (a' := ?_) ?_ ?_)
                     rotate_left
                     focus (simp only [Act.put, List.getElem_toArray, List.getElem_cons_zero, List.getElem_cons_succ, List.setIfInBounds_toArray, List.set_cons_zero, List.set_cons_succ]; rfl))
                  | (refine mix3_off rfl rfl (mix3_norm (a' := ?_) ?_ ?_)
                     rotate_left
                     focus (simp only [Act.put, List.getElem_toArray, List.getElem_cons_zero, List.getElem_cons_succ, List.setIfInBounds_toArray, List.set_cons_zero, List.set_cons_succ]; rfl)))
                refine mix3_done ?_
                clear a1 a2 hwm
                go_wp2_with fail
                case roundEnd => exact ⟨⟨k + m, _, by omega, rfl, rfl, HN, HB2⟩, by simp only [intOf]; omega⟩
            · have HST := Lib.hid (show ls[k + m]? ≠ some x from by rw [List.getElem?_eq_none (by omega)]; intro h; cases h)
              have hpl : ¬ (p : Int) < (ls.length : Int) := by omega
              clear hp
              go_wp2_with fail
              go_quiet (fail)
              clear hwp hpl
              have HB2 := Lib.hid (show Below w.heap.size w (wr.drewN nq) from HB2.out.trans ⟨rfl, rfl, rfl, Nat.le_refl _, fun _ _ => rfl⟩)
              have HSt := Lib.hid (show runsOf (ls.drop k) = (x, m) :: runsOf (ls.drop (k + m)) from by
                have h0 : 0 < (ls.drop k).length := by rw [List.length_drop]; omega
                have hx0 : (ls.drop k)[0] = x := Option.some.inj (by rw [← List.getElem?_eq_getElem h0, List.getElem?_drop]; exact HX.out)
                have h := runsOf_step (l := ls.drop k) h0 hm1 (by rw [List.length_drop]; omega) (fun j hj => by rw [hx0, List.getElem?_drop]; exact HA.out j hj) (by rw [hx0, List.getElem?_drop]; exact HST.out)
                rw [h, hx0, List.drop_drop])
              have HN := Lib.hid (show bl (S ++ txt 1 m ++ x) ++ runBytes (runsOf (ls.drop (k + m))) = arkBody ls by
                rw [← HP.out, HSt.out, bl_append, bl_append, tb1]
                show _ = _ ++ (be 1 m ++ bl x ++ runBytes _)
                simp only [List.append_assoc])
              have HNz := Lib.hid (show (S ++ txt 1 m ++ x).size ≤ 10000 by
                have h := congrArg List.length HN.out
                rw [List.length_append, bl_length] at h
                have := HBl.out
                omega)
              have z1 := ts1 m
              have hwm := wrapN (n := m) (by omega)
              have a1 := addS S (txt 1 m) (by have := HSz.out; omega)
              have a2 := addS (S ++ txt 1 m) x (by have := HNz.out; rw [ByteArray.size_append] at this; omega)
              have hwk : IntKind.i64.wrap ((k : Int) + (m : Int)) = ((k + m : Nat) : Int) := by
                have h := wrapI_nat' (n := k + m) (by omega)
                rw [← h]; push_cast; rfl
              clear HSt z1
              generalize wr.drewN nq = wc at HB2 ⊢
              go_wp2_with fail
              have HB2 := Lib.hid (show Below w.heap.size w wc.drew from HB2.out.trans ⟨rfl, rfl, rfl, Nat.le_refl _, fun _ _ => rfl⟩)
              have dk : ∀ w', KeepsBut [] wc.drew w' → w'.cell? (ad.add k) = some (.string x) := fun w' h => h.cell (by
                obtain ⟨ad', h2, h3⟩ := str_cell (Hr.out.below HB2.out) hlt
                injection h2 with h2
                subst h2
                rw [h3]
                exact congrArg (fun o => some (Value.string o)) (Option.some.inj (by rw [← List.getElem?_eq_getElem hlt]; exact HX.out))) (by simp)
              refine wp_region_mix3 (KeepsBut []) (KeepsBut.refl []) (KeepsBut.trans []) [] [(0, 0), (0, 1), (0, 5), (0, 6), (0, 7), (1, 2), (1, 8), (2, 3), (0, 4), (0, 9), (0, 10)] (by kernel_rfl) (by kernel_rfl) (fun d _ _ _ _ h => by cases d <;> exact h) ?_
              generalize wc.drew = wd at HB2 dk ⊢
              repeat (first
                | (refine mix3_free (v := ?_) rfl rfl ?_ (mix3_norm (a' := ?_) ?_ ?_)
                   rotate_left
                   focus (intro w'; go_simp; first | done | (with_reducible rfl))
                   rotate_left
                   focus (simp only [Act.put, List.getElem_toArray, List.getElem_cons_zero, List.getElem_cons_succ, List.setIfInBounds_toArray, List.set_cons_zero, List.set_cons_succ]; rfl))
                | (refine mix3_pure (v := ?_) rfl rfl ?_ (mix3_norm (a' := ?_) ?_ ?_)
                   rotate_left
                   focus (intro w' hR; go_simp; first | done | (with_reducible rfl))
                   rotate_left
                   focus (simp only [Act.put, List.getElem_toArray, List.getElem_cons_zero, List.getElem_cons_succ, List.setIfInBounds_toArray, List.set_cons_zero, List.set_cons_succ]; rfl))
                | (refine mix3_freeOff rfl rfl (mix3_norm (a' := ?_) ?_ ?_)
                   rotate_left
                   focus (simp only [Act.put, List.getElem_toArray, List.getElem_cons_zero, List.getElem_cons_succ, List.setIfInBounds_toArray, List.set_cons_zero, List.set_cons_succ]; rfl))
                | (refine mix3_off rfl rfl (mix3_norm (a' := ?_) ?_ ?_)
                   rotate_left
                   focus (simp only [Act.put, List.getElem_toArray, List.getElem_cons_zero, List.getElem_cons_succ, List.setIfInBounds_toArray, List.set_cons_zero, List.set_cons_succ]; rfl)))
              clear dk
              refine mix3_eff rfl ?_
              simp only [List.getElem_toArray, List.getElem_cons_zero, List.getElem_cons_succ]
              go_wp2_with fail
              refine (text_any 1 m (by omega) _).mono ?_
              rintro e w4 ⟨rfl, hb⟩
              have HB2 := Lib.hid (HB2.out.trans (hb.mono HB2.out.size))
              go_wp2_with fail
              refine mixQ3_normal (KeepsBut.of_below hb) rfl ?_
              clear hb
              repeat (first
                | (refine mix3_free (v := ?_) rfl rfl ?_ (mix3_norm (a' := ?_) ?_ ?_)
                   rotate_left
                   focus (intro w'; go_simp; first | done | (with_reducible rfl))
                   rotate_left
                   focus (simp only [Act.put, List.getElem_toArray, List.getElem_cons_zero, List.getElem_cons_succ, List.setIfInBounds_toArray, List.set_cons_zero, List.set_cons_succ]; rfl))
                | (refine mix3_pure (v := ?_) rfl rfl ?_ (mix3_norm (a' := ?_) ?_ ?_)
                   rotate_left
                   focus (intro w' hR; go_simp; first | done | (with_reducible rfl))
                   rotate_left
                   focus (simp only [Act.put, List.getElem_toArray, List.getElem_cons_zero, List.getElem_cons_succ, List.setIfInBounds_toArray, List.set_cons_zero, List.set_cons_succ]; rfl))
                | (refine mix3_freeOff rfl rfl (mix3_norm (a' := ?_) ?_ ?_)
                   rotate_left
                   focus (simp only [Act.put, List.getElem_toArray, List.getElem_cons_zero, List.getElem_cons_succ, List.setIfInBounds_toArray, List.set_cons_zero, List.set_cons_succ]; rfl))
                | (refine mix3_off rfl rfl (mix3_norm (a' := ?_) ?_ ?_)
                   rotate_left
                   focus (simp only [Act.put, List.getElem_toArray, List.getElem_cons_zero, List.getElem_cons_succ, List.setIfInBounds_toArray, List.set_cons_zero, List.set_cons_succ]; rfl)))
              refine mix3_done ?_
              clear a1 a2 hwm
              go_wp2_with fail
              case roundEnd => exact ⟨⟨k + m, _, by omega, rfl, rfl, HN, HB2⟩, by simp only [intOf]; omega⟩
        · obtain rfl : k = ls.length := by omega
          have HT := Lib.hid (show bl S = arkBody ls by
            have h := HP.out
            rw [List.drop_length, runsOf_nil] at h
            simpa [runBytes] using h)
          go_wp2_with (refine wpList_bytes_of rfl (.tmp 67) rfl S rfl ?_)
          intro A1 c1 w9 hr1 hc1 hb
          have HB2 := Lib.hid (HB2.out.trans (hb.mono HB2.out.size))
          have HQ := Lib.hid (refSum_any A1 (bl S) c1 w9 hr1 (by rw [bl_length]; have := HSz.out; unfold maxLen; omega))
          have hcl := crcAdd_lt 0 (bl S)
          have wc := wrapN (show crcAdd 0 (bl S) < 18446744073709551616 by omega)
          have HCl := Lib.hid hcl
          clear hr1 hc1 hb hcl
          go_wp2_with fail
          refine HQ.out.mono ?_
          rintro e w' ⟨rfl, rfl⟩
          have ha := addS S (txt 4 (crcAdd 0 (bl S))) (by have := HSz.out; have := ts4 (crcAdd 0 (bl S)); omega)
          go_wp2_with fail
          refine (text_any 4 (crcAdd 0 (bl S)) (by have := HCl.out; omega) _).mono ?_
          rintro e w10 ⟨rfl, hb⟩
          have HB2 := Lib.hid (HB2.out.trans (hb.mono HB2.out.size))
          clear hb HQ
          go_wp2_with fail
          go_ret2
          exact ⟨S ++ txt 4 (crcAdd 0 (bl S)), by rw [HE.out.1]; rfl, by rw [HE.out.2, bl_append, tb4, HT.out], HB2.out⟩
end Go.Proofs.Ytcahflddafdhfaa
