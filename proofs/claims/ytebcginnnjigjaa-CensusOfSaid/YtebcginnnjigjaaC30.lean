import Derived.Test.YtebcginnnjigjaaC29
section
/- The partition of what is equal: walked. -/
open Go.RowKit
namespace Go.Proofs.Ytebcginnnjigjaa
set_option maxHeartbeats 16000000 in
set_option maxRecDepth 100000 in
theorem partEq_any (W : World) (b c : Nat) (d : Array Int) (a e pv : Nat) (h : ARow W b c d) (hpa : a ≤ pv) (hpe : pv < e) (he : e ≤ d.size) (hn : d.size ≤ 1000) :
    Calls Try.prog 89 #[.slice (some ⟨b, 0, none⟩) d.size c, .int .i64 (a : Nat), .int .i64 (e : Nat), .int .i64 (pv : Nat)] W fun r W' =>
      r = .returned (.int .i64 ((Sort.partitionEqual Sort.ltInt d a e pv).1 : Nat)) ∧ SrtOut W W' b c (Sort.partitionEqual Sort.ltInt d a e pv).2 := by
  have HR := Lib.hid (show SrtOut W W b c d from ⟨h, Chg.refl _ _⟩)
  obtain ⟨n, hnd⟩ : ∃ n, d.size = n := ⟨_, rfl⟩
  rw [hnd] at he hn ⊢
  have Hs := Lib.hid hnd
  obtain ⟨e0, he0⟩ : ∃ e0, e = e0 + 1 := ⟨e - 1, by omega⟩
  subst he0
  rw [show ((e0 + 1 : Nat) : Int) = (e0 : Int) + 1 by push_cast; rfl]
  have HP := Lib.hid (show Sort.partEqLoop Sort.ltInt a (a + 1) e0 (Sort.swp d a pv) = Sort.partitionEqual Sort.ltInt d a (e0 + 1) pv from rfl)
  generalize Sort.partitionEqual Sort.ltInt d a (e0 + 1) pv = tg at HP ⊢
  have han : (a : Int) < (n : Int) := by omega
  have hpn : (pv : Int) < (n : Int) := by omega
  have he01 : e0 ≤ 1000 := by omega
  clear h hnd
  have his : a < d.size := by have := Hs.out; omega
  have los : pv < d.size := by have := Hs.out; omega
  have s0 := HR.out.1.cell his
  have t0 := HR.out.1.cell los
  have Hsw := Lib.hid (fun W' (h : ARow W' b c d) => h.swp a pv)
  obtain ⟨x, hx⟩ : ∃ x, d[a]! = x := ⟨_, rfl⟩
  obtain ⟨y, hy⟩ : ∃ y, d[pv]! = y := ⟨_, rfl⟩
  rw [hx] at s0 Hsw
  rw [hy] at t0 Hsw
  have S0 := Lib.hid s0
  have T0 := Lib.hid t0
  clear hx hy
  go_enter Try.func89, Try.ntmps89
  go_wp2_with fail
  have s0 := S0.out
  have t0 := T0.out
  have p0 := fun w' (hk : KeepsBut [] W.drew w') => hk.cell (p := ⟨b, a, none⟩) s0 (by simp)
  have p1 := fun w' (hk : KeepsBut [] W.drew w') => hk.cell (p := ⟨b, pv, none⟩) t0 (by simp)
  have HA := HR.out.1.drew
  have HR1 := Lib.hid (show SrtOut W ((W.drew.setCell ⟨b, a, none⟩ (.int .u64 y)).setCell ⟨b, pv, none⟩ (.int .u64 x)) b c (Sort.swp d a pv) from ⟨Hsw.out _ HA, HR.out.2.drew.trans (chg_swp W.drew b a pv (.int .u64 y) (.int .u64 x)) (fun _ _ h => h)⟩)
  have f0 := HA.frozen a
  have f1 := (HA.set a y).frozen pv
  have c0 : W.drew.cell? ⟨b, a, none⟩ = some (.int .u64 x) := s0
  obtain ⟨u1, c1⟩ : ∃ u1, (W.drew.setCell ⟨b, a, none⟩ (.int .u64 y)).cell? ⟨b, pv, none⟩ = some u1 := ⟨_, (HA.set a y).cell (by rw [Array.size_setIfInBounds]; exact los)⟩
  clear s0 t0 HA
  refine wp_region_mix3 (KeepsBut []) (KeepsBut.refl []) (KeepsBut.trans []) [13, 15] [(0, 0), (0, 1), (0, 2), (0, 3), (0, 4), (0, 5), (0, 6), (0, 8), (0, 9), (0, 10), (1, 7), (1, 11), (0, 12), (2, 13), (0, 14), (2, 15)] (by kernel_rfl) (by kernel_rfl) (fun d _ _ _ _ h => by cases d <;> exact h) ?_
  generalize W.drew = w3 at p0 p1 HR1 f0 f1 c0 c1 ⊢
  repeat ((first | (refine mix3_free (v := ?_) rfl rfl ?_ (mix3_norm (a' := ?_) ?_ ?_); rotate_left; focus (intro w'; go_simp; first | done | (with_reducible rfl))) | (refine mix3_pure (v := ?_) rfl rfl ?_ (mix3_norm (a' := ?_) ?_ ?_); rotate_left; focus (intro w' hR; go_simp; first | done | (with_reducible rfl))) | refine mix3_freeOff rfl rfl (mix3_norm (a' := ?_) ?_ ?_) | refine mix3_off rfl rfl (mix3_norm (a' := ?_) ?_ ?_)); rotate_left; focus (simp only [Act.put, List.getElem_toArray, List.getElem_cons_zero, List.getElem_cons_succ, List.setIfInBounds_toArray, List.set_cons_zero, List.set_cons_succ]; rfl))
  refine mix3_eff rfl ?_
  simp only [List.getElem_toArray, List.getElem_cons_zero, List.getElem_cons_succ]
  go_wp2_with fail
  refine mixQ3_last (by simp) rfl ?_
  repeat ((first | (refine mix3_free (v := ?_) rfl rfl ?_ (mix3_norm (a' := ?_) ?_ ?_); rotate_left; focus (intro w'; go_simp; first | done | (with_reducible rfl))) | (refine mix3_pure (v := ?_) rfl rfl ?_ (mix3_norm (a' := ?_) ?_ ?_); rotate_left; focus (intro w' hR; go_simp; first | done | (with_reducible rfl))) | refine mix3_freeOff rfl rfl (mix3_norm (a' := ?_) ?_ ?_) | refine mix3_off rfl rfl (mix3_norm (a' := ?_) ?_ ?_)); rotate_left; focus (simp only [Act.put, List.getElem_toArray, List.getElem_cons_zero, List.getElem_cons_succ, List.setIfInBounds_toArray, List.set_cons_zero, List.set_cons_succ]; rfl))
  refine mix3_eff rfl ?_
  simp only [List.getElem_toArray, List.getElem_cons_zero, List.getElem_cons_succ]
  go_wp2_with fail
  refine mixQ3_last (by simp) rfl ?_
  refine mix3_done ?_
  clear p0 p1 f0 f1 c0 c1
  generalize (w3.setCell ⟨b, a, none⟩ (.int .u64 y)).setCell ⟨b, pv, none⟩ (.int .u64 x) = w3' at HR1 ⊢
  have HZ1 := Lib.hid (show (Sort.swp d a pv).size = n by rw [Sort.size_swp]; exact Hs.out)
  generalize Sort.swp d a pv = d0 at HR1 HP HZ1
  clear HR Hsw S0 T0 Hs hpn
  go_wp2_with fail
  go_loopw [9, 10] (fun v u wr => ∃ (i j : Nat) (d1 : Array Int), a + 1 ≤ i ∧ i ≤ e0 + 1 ∧ a ≤ j ∧ j ≤ e0 ∧ v = .int .i64 i ∧ u = .int .i64 j ∧ Hid (d1.size = n) ∧ Hid (SrtOut W wr b c d1) ∧ Hid (Sort.partEqLoop Sort.ltInt a i j d1 = tg)) (fun v u _ => (intOf u + 2000 - intOf v).toNat)
  case atStart => exact ⟨a + 1, e0, d0, Nat.le_refl _, by omega, by omega, Nat.le_refl _, by push_cast; rfl, rfl, HZ1, HR1, HP⟩
  case round =>
    clear HR1 HP HZ1
    obtain ⟨i, j, d1, hi1, hi2, hj1, hj2, rfl, rfl, Hs1, HR1, HE⟩ := hrel
    obtain ⟨wo, hwo⟩ : ∃ wo : World, wo = wr := ⟨_, rfl⟩
    subst hwo
    have hij0 : i ≤ 1001 ∧ j ≤ 1000 := by omega
    go_wp2_with fail
    go_loopw [9] (fun v wi => ∃ k : Nat, i ≤ k ∧ k ≤ e0 + 1 ∧ v = .int .i64 k ∧ Hid (SrtOut W wi b c d1) ∧ Hid (Sort.scanUp (fun x => !Sort.ltInt d1[a]! x) d1 j k = Sort.scanUp (fun x => !Sort.ltInt d1[a]! x) d1 j i)) (fun v _ => ((e0 : Int) + 2 - intOf v).toNat)
    case atStart => exact ⟨i, Nat.le_refl _, hi2, rfl, HR1, Lib.hid rfl⟩
    case round =>
      clear HR1
      obtain ⟨k, hk1, hk2, rfl, HR, HJ⟩ := hrel
      obtain ⟨wi, hwi⟩ : ∃ wi : World, wi = wr := ⟨_, rfl⟩
      subst hwi
      have hk1000 : k ≤ 1001 := by omega
      by_cases hkj : k ≤ j
      · have hkn : (k : Int) < (n : Int) := by omega
        have hkji : (k : Int) ≤ (j : Int) := by omega
        have his : a < d1.size := by have := Hs1.out; omega
        have los : k < d1.size := by have := Hs1.out; omega
        have s0 := HR.out.1.cell his
        have t0 := HR.out.1.cell los
        have Hsw := Lib.hid (fun W' (h : ARow W' b c d1) => h.swp a k)
        obtain ⟨x1, hx⟩ : ∃ x, d1[a]! = x := ⟨_, rfl⟩
        obtain ⟨y1, hy⟩ : ∃ y, d1[k]! = y := ⟨_, rfl⟩
        rw [hx] at s0 Hsw
        rw [hy] at t0 Hsw
        have S0 := Lib.hid s0
        have T0 := Lib.hid t0
        have Hsc := Lib.hid (show Sort.scanUp (fun x => !Sort.ltInt d1[a]! x) d1 j k = if decide (x1 < y1) then k else Sort.scanUp (fun x => !Sort.ltInt d1[a]! x) d1 j (k + 1) from by
          rw [Sort.scanUp, hx, hy]
          by_cases h : x1 < y1 <;> simp [hkj, Sort.ltInt, h])
        have hl := less_any x1 y1
        clear hx hy S0 T0 Hsw
        go_wp2_with fail
        have p0 := fun w' (hk : KeepsBut [] wi.drew w') => hk.cell (p := ⟨b, a, none⟩) s0 (by simp)
        have p1 := fun w' (hk : KeepsBut [] wi.drew w') => hk.cell (p := ⟨b, k, none⟩) t0 (by simp)
        have HR2 := Lib.hid (show SrtOut W wi.drew b c d1 from ⟨HR.out.1.drew, HR.out.2.drew⟩)
        have S0 := Lib.hid (show wi.drew.cell? ⟨b, a, none⟩ = some (.int .u64 x1) from s0)
        have T0 := Lib.hid (show wi.drew.cell? ⟨b, k, none⟩ = some (.int .u64 y1) from t0)
        clear s0 t0
        refine wp_region_mix3 (KeepsBut []) (KeepsBut.refl []) (KeepsBut.trans []) [] [(0, 0), (0, 1), (0, 2), (0, 3), (0, 4), (0, 5), (0, 6), (0, 8), (0, 9), (0, 10), (1, 7), (1, 11), (2, 12), (0, 13), (0, 14)] (by kernel_rfl) (by kernel_rfl) (fun d _ _ _ _ h => by cases d <;> exact h) ?_
        generalize wi.drew = w2 at p0 p1 HR2 S0 T0 ⊢
        repeat ((first | (refine mix3_free (v := ?_) rfl rfl ?_ (mix3_norm (a' := ?_) ?_ ?_); rotate_left; focus (intro w'; go_simp; first | done | (with_reducible rfl))) | (refine mix3_pure (v := ?_) rfl rfl ?_ (mix3_norm (a' := ?_) ?_ ?_); rotate_left; focus (intro w' hR; go_simp; first | done | (with_reducible rfl))) | refine mix3_freeOff rfl rfl (mix3_norm (a' := ?_) ?_ ?_) | refine mix3_off rfl rfl (mix3_norm (a' := ?_) ?_ ?_)); rotate_left; focus (simp only [Act.put, List.getElem_toArray, List.getElem_cons_zero, List.getElem_cons_succ, List.setIfInBounds_toArray, List.set_cons_zero, List.set_cons_succ]; rfl))
        clear p0 p1
        by_cases hxy : x1 < y1
        · have hlt : Sort.ltInt x1 y1 = true := decide_eq_true hxy
          rw [hlt] at hl
          have hsc := Hsc.out
          rw [if_pos (decide_eq_true hxy)] at hsc
          have HK := Lib.hid (show Sort.scanUp (fun x => !Sort.ltInt d1[a]! x) d1 j i = k from HJ.out.symm.trans hsc)
          clear hsc Hsc HJ hxy S0 T0 HR
          refine mix3_eff rfl ?_
          simp only [List.getElem_toArray, List.getElem_cons_zero, List.getElem_cons_succ]
          go_wp2_with fail
          refine (hl _).mono ?_
          rintro r' w3 ⟨rfl, rfl⟩
          go_wp2_with fail
          refine mixQ3_normal (KeepsBut.refl _ _) rfl ?_
          repeat ((first | (refine mix3_free (v := ?_) rfl rfl ?_ (mix3_norm (a' := ?_) ?_ ?_); rotate_left; focus (intro w'; go_simp; first | done | (with_reducible rfl))) | (refine mix3_pure (v := ?_) rfl rfl ?_ (mix3_norm (a' := ?_) ?_ ?_); rotate_left; focus (intro w' hR; go_simp; first | done | (with_reducible rfl))) | refine mix3_freeOff rfl rfl (mix3_norm (a' := ?_) ?_ ?_) | refine mix3_off rfl rfl (mix3_norm (a' := ?_) ?_ ?_)); rotate_left; focus (simp only [Act.put, List.getElem_toArray, List.getElem_cons_zero, List.getElem_cons_succ, List.setIfInBounds_toArray, List.set_cons_zero, List.set_cons_succ]; rfl))
          refine mix3_done ?_
          go_wp2_with fail
          try generalize decide (k ≤ j) = bkj
          go_loopw [10] (fun v wd => ∃ l : Nat, a ≤ l ∧ l ≤ j ∧ v = .int .i64 l ∧ Hid (SrtOut W wd b c d1) ∧ Hid (Sort.scanDown (fun x => Sort.ltInt d1[a]! x) d1 k l = Sort.scanDown (fun x => Sort.ltInt d1[a]! x) d1 k j)) (fun v _ => (intOf v).toNat)
          case atStart => exact ⟨j, hj1, Nat.le_refl _, rfl, HR2, Lib.hid rfl⟩
          case round =>
            clear HR2
            obtain ⟨l, hl1, hl2, rfl, HR2, HJ⟩ := hrel
            obtain ⟨wd, hwd⟩ : ∃ wd : World, wd = wr := ⟨_, rfl⟩
            subst hwd
            have hl1000 : l ≤ 1000 := by omega
            by_cases hkl : k ≤ l
            · obtain ⟨l0, hl0⟩ : ∃ l0, l = l0 + 1 := ⟨l - 1, by omega⟩
              have Hl0 := Lib.hid hl0
              have hln : (l : Int) < (n : Int) := by omega
              have hkn2 : (k : Int) < (n : Int) := by omega
              have hwl : (l : Int) - 1 = (l0 : Int) := by omega
              have his : a < d1.size := by have := Hs1.out; omega
              have los : l < d1.size := by have := Hs1.out; omega
              have s0 := HR2.out.1.cell his
              have t0 := HR2.out.1.cell los
              have Hsw := Lib.hid (fun W' (h : ARow W' b c d1) => h.swp a l)
              obtain ⟨x2, hx⟩ : ∃ x, d1[a]! = x := ⟨_, rfl⟩
              obtain ⟨y2, hy⟩ : ∃ y, d1[l]! = y := ⟨_, rfl⟩
              rw [hx] at s0 Hsw
              rw [hy] at t0 Hsw
              have S0 := Lib.hid s0
              have T0 := Lib.hid t0
              have Hsd := Lib.hid (show Sort.scanDown (fun x => Sort.ltInt d1[a]! x) d1 k l = if decide (x2 < y2) then Sort.scanDown (fun x => Sort.ltInt d1[a]! x) d1 k l0 else l from by
                rw [hl0, Sort.scanDown, ← hl0, hx, hy]
                by_cases h : x2 < y2 <;> simp [hkl, Sort.ltInt, h])
              have hl := less_any x2 y2
              clear hx hy S0 T0 Hsw hl0
              go_wp2_with fail
              have p0 := fun w' (hk : KeepsBut [] wd.drew w') => hk.cell (p := ⟨b, a, none⟩) s0 (by simp)
              have p1 := fun w' (hk : KeepsBut [] wd.drew w') => hk.cell (p := ⟨b, l, none⟩) t0 (by simp)
              have HR5 := Lib.hid (show SrtOut W wd.drew b c d1 from ⟨HR2.out.1.drew, HR2.out.2.drew⟩)
              have S0 := Lib.hid (show wd.drew.cell? ⟨b, a, none⟩ = some (.int .u64 x2) from s0)
              have T0 := Lib.hid (show wd.drew.cell? ⟨b, l, none⟩ = some (.int .u64 y2) from t0)
              clear s0 t0
              refine wp_region_mix3 (KeepsBut []) (KeepsBut.refl []) (KeepsBut.trans []) [] [(0, 0), (0, 1), (0, 2), (0, 3), (0, 4), (0, 5), (0, 6), (0, 8), (0, 9), (0, 10), (1, 7), (1, 11), (2, 12), (0, 13)] (by kernel_rfl) (by kernel_rfl) (fun d _ _ _ _ h => by cases d <;> exact h) ?_
              generalize wd.drew = w5 at p0 p1 HR5 S0 T0 ⊢
              repeat ((first | (refine mix3_free (v := ?_) rfl rfl ?_ (mix3_norm (a' := ?_) ?_ ?_); rotate_left; focus (intro w'; go_simp; first | done | (with_reducible rfl))) | (refine mix3_pure (v := ?_) rfl rfl ?_ (mix3_norm (a' := ?_) ?_ ?_); rotate_left; focus (intro w' hR; go_simp; first | done | (with_reducible rfl))) | refine mix3_freeOff rfl rfl (mix3_norm (a' := ?_) ?_ ?_) | refine mix3_off rfl rfl (mix3_norm (a' := ?_) ?_ ?_)); rotate_left; focus (simp only [Act.put, List.getElem_toArray, List.getElem_cons_zero, List.getElem_cons_succ, List.setIfInBounds_toArray, List.set_cons_zero, List.set_cons_succ]; rfl))
              clear p0 p1
              by_cases hxy : x2 < y2
              · have hlt : Sort.ltInt x2 y2 = true := decide_eq_true hxy
                rw [hlt] at hl
                have hsd := Hsd.out
                rw [if_pos (decide_eq_true hxy)] at hsd
                have HJ2 := Lib.hid (hsd.symm.trans HJ.out)
                clear hsd Hsd HJ hxy S0 T0
                refine mix3_eff rfl ?_
                simp only [List.getElem_toArray, List.getElem_cons_zero, List.getElem_cons_succ]
                go_wp2_with fail
                refine (hl _).mono ?_
                rintro r' w3 ⟨rfl, rfl⟩
                go_wp2_with fail
                refine mixQ3_normal (KeepsBut.refl _ _) rfl ?_
                repeat ((first | (refine mix3_free (v := ?_) rfl rfl ?_ (mix3_norm (a' := ?_) ?_ ?_); rotate_left; focus (intro w'; go_simp; first | done | (with_reducible rfl))) | (refine mix3_pure (v := ?_) rfl rfl ?_ (mix3_norm (a' := ?_) ?_ ?_); rotate_left; focus (intro w' hR; go_simp; first | done | (with_reducible rfl))) | refine mix3_freeOff rfl rfl (mix3_norm (a' := ?_) ?_ ?_) | refine mix3_off rfl rfl (mix3_norm (a' := ?_) ?_ ?_)); rotate_left; focus (simp only [Act.put, List.getElem_toArray, List.getElem_cons_zero, List.getElem_cons_succ, List.setIfInBounds_toArray, List.set_cons_zero, List.set_cons_succ]; rfl))
                refine mix3_done ?_
                go_wp2_with fail
                case roundEnd =>
                  have := Hl0.out
                  exact ⟨⟨l0, by omega, by omega, rfl, HR5, HJ2⟩, by simp only [intOf]; omega⟩
              · have hlt : Sort.ltInt x2 y2 = false := decide_eq_false hxy
                rw [hlt] at hl
                have hsd := Hsd.out
                rw [if_neg (by rw [decide_eq_false hxy]; decide)] at hsd
                have hX := HE.out
                rw [Sort.partEqLoop_eq, HK.out, HJ.out.symm.trans hsd, if_neg (by omega), show l - 1 = l0 by have := Hl0.out; omega] at hX
                have HX := Lib.hid hX
                have hgt : ¬ (l : Int) < (k : Int) := by omega
                clear hsd Hsd HJ hxy hX S0 T0
                refine mix3_eff rfl ?_
                simp only [List.getElem_toArray, List.getElem_cons_zero, List.getElem_cons_succ]
                go_wp2_with fail
                refine (hl _).mono ?_
                rintro r' w3 ⟨rfl, rfl⟩
                go_wp2_with fail
                refine mixQ3_normal (KeepsBut.refl _ _) rfl ?_
                repeat ((first | (refine mix3_free (v := ?_) rfl rfl ?_ (mix3_norm (a' := ?_) ?_ ?_); rotate_left; focus (intro w'; go_simp; first | done | (with_reducible rfl))) | (refine mix3_pure (v := ?_) rfl rfl ?_ (mix3_norm (a' := ?_) ?_ ?_); rotate_left; focus (intro w' hR; go_simp; first | done | (with_reducible rfl))) | refine mix3_freeOff rfl rfl (mix3_norm (a' := ?_) ?_ ?_) | refine mix3_off rfl rfl (mix3_norm (a' := ?_) ?_ ?_)); rotate_left; focus (simp only [Act.put, List.getElem_toArray, List.getElem_cons_zero, List.getElem_cons_succ, List.setIfInBounds_toArray, List.set_cons_zero, List.set_cons_succ]; rfl))
                refine mix3_done ?_
                go_wp2_with fail
                have his : k < d1.size := by have := Hs1.out; omega
                have los : l < d1.size := by have := Hs1.out; omega
                have s0 := HR5.out.1.cell his
                have t0 := HR5.out.1.cell los
                have Hsw := Lib.hid (fun W' (h : ARow W' b c d1) => h.swp k l)
                obtain ⟨x3, hx⟩ : ∃ x, d1[k]! = x := ⟨_, rfl⟩
                obtain ⟨y3, hy⟩ : ∃ y, d1[l]! = y := ⟨_, rfl⟩
                rw [hx] at s0 Hsw
                rw [hy] at t0 Hsw
                have S0 := Lib.hid s0
                have T0 := Lib.hid t0
                clear hx hy s0 t0
                have s0 := S0.out
                have t0 := T0.out
                have p0 := fun w' (hk : KeepsBut [] w5.drew w') => hk.cell (p := ⟨b, k, none⟩) s0 (by simp)
                have p1 := fun w' (hk : KeepsBut [] w5.drew w') => hk.cell (p := ⟨b, l, none⟩) t0 (by simp)
                have HA := HR5.out.1.drew
                have HR6 := Lib.hid (show SrtOut W ((w5.drew.setCell ⟨b, k, none⟩ (.int .u64 y3)).setCell ⟨b, l, none⟩ (.int .u64 x3)) b c (Sort.swp d1 k l) from ⟨Hsw.out _ HA, HR5.out.2.drew.trans (chg_swp w5.drew b k l (.int .u64 y3) (.int .u64 x3)) (fun _ _ h => h)⟩)
                have f0 := HA.frozen k
                have f1 := (HA.set k y3).frozen l
                have c0 : w5.drew.cell? ⟨b, k, none⟩ = some (.int .u64 x3) := s0
                obtain ⟨u1, c1⟩ : ∃ u1, (w5.drew.setCell ⟨b, k, none⟩ (.int .u64 y3)).cell? ⟨b, l, none⟩ = some u1 := ⟨_, (HA.set k y3).cell (by rw [Array.size_setIfInBounds]; exact los)⟩
                clear s0 t0 HA
                refine wp_region_mix3 (KeepsBut []) (KeepsBut.refl []) (KeepsBut.trans []) [13, 15] [(0, 0), (0, 1), (0, 2), (0, 3), (0, 4), (0, 5), (0, 6), (0, 8), (0, 9), (0, 10), (1, 7), (1, 11), (0, 12), (2, 13), (0, 14), (2, 15)] (by kernel_rfl) (by kernel_rfl) (fun d _ _ _ _ h => by cases d <;> exact h) ?_
                generalize w5.drew = w6 at p0 p1 HR6 f0 f1 c0 c1 ⊢
                repeat ((first | (refine mix3_free (v := ?_) rfl rfl ?_ (mix3_norm (a' := ?_) ?_ ?_); rotate_left; focus (intro w'; go_simp; first | done | (with_reducible rfl))) | (refine mix3_pure (v := ?_) rfl rfl ?_ (mix3_norm (a' := ?_) ?_ ?_); rotate_left; focus (intro w' hR; go_simp; first | done | (with_reducible rfl))) | refine mix3_freeOff rfl rfl (mix3_norm (a' := ?_) ?_ ?_) | refine mix3_off rfl rfl (mix3_norm (a' := ?_) ?_ ?_)); rotate_left; focus (simp only [Act.put, List.getElem_toArray, List.getElem_cons_zero, List.getElem_cons_succ, List.setIfInBounds_toArray, List.set_cons_zero, List.set_cons_succ]; rfl))
                refine mix3_eff rfl ?_
                simp only [List.getElem_toArray, List.getElem_cons_zero, List.getElem_cons_succ]
                go_wp2_with fail
                refine mixQ3_last (by simp) rfl ?_
                repeat ((first | (refine mix3_free (v := ?_) rfl rfl ?_ (mix3_norm (a' := ?_) ?_ ?_); rotate_left; focus (intro w'; go_simp; first | done | (with_reducible rfl))) | (refine mix3_pure (v := ?_) rfl rfl ?_ (mix3_norm (a' := ?_) ?_ ?_); rotate_left; focus (intro w' hR; go_simp; first | done | (with_reducible rfl))) | refine mix3_freeOff rfl rfl (mix3_norm (a' := ?_) ?_ ?_) | refine mix3_off rfl rfl (mix3_norm (a' := ?_) ?_ ?_)); rotate_left; focus (simp only [Act.put, List.getElem_toArray, List.getElem_cons_zero, List.getElem_cons_succ, List.setIfInBounds_toArray, List.set_cons_zero, List.set_cons_succ]; rfl))
                refine mix3_eff rfl ?_
                simp only [List.getElem_toArray, List.getElem_cons_zero, List.getElem_cons_succ]
                go_wp2_with fail
                refine mixQ3_last (by simp) rfl ?_
                refine mix3_done ?_
                clear p0 p1 f0 f1 c0 c1
                generalize (w6.setCell ⟨b, k, none⟩ (.int .u64 y3)).setCell ⟨b, l, none⟩ (.int .u64 x3) = w6' at HR6 ⊢
                have HZ9 := Lib.hid (show (Sort.swp d1 k l).size = n by rw [Sort.size_swp]; exact Hs1.out)
                generalize Sort.swp d1 k l = d9 at HR6 HX HZ9
                clear Hsw S0 T0
                go_wp2_with fail
                case roundEnd =>
                  have := Hl0.out
                  exact ⟨⟨k + 1, l0, d9, by omega, by omega, by omega, by omega, by push_cast; rfl, by first | rfl | (congr 1; omega), HZ9, HR6, HX⟩, by simp only [intOf]; omega⟩
            · have Hge := Lib.hid (show decide (k ≤ l) = false from decide_eq_false hkl)
              have hsd : Sort.scanDown (fun x => Sort.ltInt d1[a]! x) d1 k l = l := by
                cases l with
                | zero => rfl
                | succ l0 => rw [Sort.scanDown]; simp [hkl]
              have hX := HE.out
              rw [Sort.partEqLoop_eq, HK.out, HJ.out.symm.trans hsd, if_pos (by omega)] at hX
              have HX := Lib.hid hX
              have HR5 := Lib.hid (show SrtOut W wd.drew b c d1 from ⟨HR2.out.1.drew, HR2.out.2.drew⟩)
              have hgt : (l : Int) < (k : Int) := by omega
              clear HJ hkl HR2 hX hsd
              go_wp2_with fail
              refine wp_region_mix3 (KeepsBut []) (KeepsBut.refl []) (KeepsBut.trans []) [] [(0, 0), (0, 1), (0, 2), (0, 3), (0, 4), (0, 5), (0, 6), (0, 8), (0, 9), (0, 10), (1, 7), (1, 11), (2, 12), (0, 13)] (by kernel_rfl) (by kernel_rfl) (fun d _ _ _ _ h => by cases d <;> exact h) ?_
              generalize wd.drew = w5 at HR5 ⊢
              have hge := Hge.out
              repeat ((first | (refine mix3_free (v := ?_) rfl rfl ?_ (mix3_norm (a' := ?_) ?_ ?_); rotate_left; focus (intro w'; go_simp; first | done | (with_reducible rfl))) | (refine mix3_pure (v := ?_) rfl rfl ?_ (mix3_norm (a' := ?_) ?_ ?_); rotate_left; focus (intro w' hR; go_simp; first | done | (with_reducible rfl))) | refine mix3_freeOff rfl rfl (mix3_norm (a' := ?_) ?_ ?_) | refine mix3_off rfl rfl (mix3_norm (a' := ?_) ?_ ?_)); rotate_left; focus (simp only [Act.put, List.getElem_toArray, List.getElem_cons_zero, List.getElem_cons_succ, List.setIfInBounds_toArray, List.set_cons_zero, List.set_cons_succ]; rfl))
              refine mix3_skip (KeepsBut.refl []) rfl rfl (mix3_norm (a' := ?_) ?_ ?_)
              rotate_left
              focus (simp only [Act.put, List.getElem_toArray, List.getElem_cons_zero, List.getElem_cons_succ, List.setIfInBounds_toArray, List.set_cons_zero, List.set_cons_succ]; rfl)
              repeat ((first | (refine mix3_free (v := ?_) rfl rfl ?_ (mix3_norm (a' := ?_) ?_ ?_); rotate_left; focus (intro w'; go_simp; first | done | (with_reducible rfl))) | (refine mix3_pure (v := ?_) rfl rfl ?_ (mix3_norm (a' := ?_) ?_ ?_); rotate_left; focus (intro w' hR; go_simp; first | done | (with_reducible rfl))) | refine mix3_freeOff rfl rfl (mix3_norm (a' := ?_) ?_ ?_) | refine mix3_off rfl rfl (mix3_norm (a' := ?_) ?_ ?_)); rotate_left; focus (simp only [Act.put, List.getElem_toArray, List.getElem_cons_zero, List.getElem_cons_succ, List.setIfInBounds_toArray, List.set_cons_zero, List.set_cons_succ]; rfl))
              refine mix3_done ?_
              clear hge Hge
              go_wp2_with fail
              try simp only [Exit.inBlock, Exit.then]
              exact bodyPost_ret (results_tmp rfl _ _ _) rfl ⟨by rw [← HX.out]; rfl, by rw [← HX.out]; exact HR5.out⟩
        · have hlt : Sort.ltInt x1 y1 = false := decide_eq_false hxy
          rw [hlt] at hl
          have hsc := Hsc.out
          rw [if_neg (by rw [decide_eq_false hxy]; decide)] at hsc
          have HK := Lib.hid (hsc.symm.trans HJ.out)
          clear hsc Hsc HJ hxy S0 T0 HR
          refine mix3_eff rfl ?_
          simp only [List.getElem_toArray, List.getElem_cons_zero, List.getElem_cons_succ]
          go_wp2_with fail
          refine (hl _).mono ?_
          rintro r' w3 ⟨rfl, rfl⟩
          go_wp2_with fail
          refine mixQ3_normal (KeepsBut.refl _ _) rfl ?_
          repeat ((first | (refine mix3_free (v := ?_) rfl rfl ?_ (mix3_norm (a' := ?_) ?_ ?_); rotate_left; focus (intro w'; go_simp; first | done | (with_reducible rfl))) | (refine mix3_pure (v := ?_) rfl rfl ?_ (mix3_norm (a' := ?_) ?_ ?_); rotate_left; focus (intro w' hR; go_simp; first | done | (with_reducible rfl))) | refine mix3_freeOff rfl rfl (mix3_norm (a' := ?_) ?_ ?_) | refine mix3_off rfl rfl (mix3_norm (a' := ?_) ?_ ?_)); rotate_left; focus (simp only [Act.put, List.getElem_toArray, List.getElem_cons_zero, List.getElem_cons_succ, List.setIfInBounds_toArray, List.set_cons_zero, List.set_cons_succ]; rfl))
          refine mix3_done ?_
          go_wp2_with fail
          case roundEnd =>
            exact ⟨⟨k + 1, by omega, by omega, by push_cast; rfl, HR2, HK⟩, by simp only [intOf]; omega⟩
      · have Hge := Lib.hid (show decide (k ≤ j) = false from decide_eq_false hkj)
        have HK := Lib.hid (show Sort.scanUp (fun x => !Sort.ltInt d1[a]! x) d1 j i = k from by
          rw [← HJ.out, Sort.scanUp]
          simp [hkj])
        have HR2 := Lib.hid (show SrtOut W wi.drew b c d1 from ⟨HR.out.1.drew, HR.out.2.drew⟩)
        clear HJ hkj HR
        go_wp2_with fail
        refine wp_region_mix3 (KeepsBut []) (KeepsBut.refl []) (KeepsBut.trans []) [] [(0, 0), (0, 1), (0, 2), (0, 3), (0, 4), (0, 5), (0, 6), (0, 8), (0, 9), (0, 10), (1, 7), (1, 11), (2, 12), (0, 13), (0, 14)] (by kernel_rfl) (by kernel_rfl) (fun d _ _ _ _ h => by cases d <;> exact h) ?_
        generalize wi.drew = w2 at HR2 ⊢
        have hge := Hge.out
        repeat ((first | (refine mix3_free (v := ?_) rfl rfl ?_ (mix3_norm (a' := ?_) ?_ ?_); rotate_left; focus (intro w'; go_simp; first | done | (with_reducible rfl))) | (refine mix3_pure (v := ?_) rfl rfl ?_ (mix3_norm (a' := ?_) ?_ ?_); rotate_left; focus (intro w' hR; go_simp; first | done | (with_reducible rfl))) | refine mix3_freeOff rfl rfl (mix3_norm (a' := ?_) ?_ ?_) | refine mix3_off rfl rfl (mix3_norm (a' := ?_) ?_ ?_)); rotate_left; focus (simp only [Act.put, List.getElem_toArray, List.getElem_cons_zero, List.getElem_cons_succ, List.setIfInBounds_toArray, List.set_cons_zero, List.set_cons_succ]; rfl))
        refine mix3_skip (KeepsBut.refl []) rfl rfl (mix3_norm (a' := ?_) ?_ ?_)
        rotate_left
        focus (simp only [Act.put, List.getElem_toArray, List.getElem_cons_zero, List.getElem_cons_succ, List.setIfInBounds_toArray, List.set_cons_zero, List.set_cons_succ]; rfl)
        repeat ((first | (refine mix3_free (v := ?_) rfl rfl ?_ (mix3_norm (a' := ?_) ?_ ?_); rotate_left; focus (intro w'; go_simp; first | done | (with_reducible rfl))) | (refine mix3_pure (v := ?_) rfl rfl ?_ (mix3_norm (a' := ?_) ?_ ?_); rotate_left; focus (intro w' hR; go_simp; first | done | (with_reducible rfl))) | refine mix3_freeOff rfl rfl (mix3_norm (a' := ?_) ?_ ?_) | refine mix3_off rfl rfl (mix3_norm (a' := ?_) ?_ ?_)); rotate_left; focus (simp only [Act.put, List.getElem_toArray, List.getElem_cons_zero, List.getElem_cons_succ, List.setIfInBounds_toArray, List.set_cons_zero, List.set_cons_succ]; rfl))
        refine mix3_done ?_
        clear hge Hge
        go_wp2_with fail
        try generalize decide (k ≤ j) = bkj
        go_loopw [10] (fun v wd => ∃ l : Nat, a ≤ l ∧ l ≤ j ∧ v = .int .i64 l ∧ Hid (SrtOut W wd b c d1) ∧ Hid (Sort.scanDown (fun x => Sort.ltInt d1[a]! x) d1 k l = Sort.scanDown (fun x => Sort.ltInt d1[a]! x) d1 k j)) (fun v _ => (intOf v).toNat)
        case atStart => exact ⟨j, hj1, Nat.le_refl _, rfl, HR2, Lib.hid rfl⟩
        case round =>
          clear HR2
          obtain ⟨l, hl1, hl2, rfl, HR2, HJ⟩ := hrel
          obtain ⟨wd, hwd⟩ : ∃ wd : World, wd = wr := ⟨_, rfl⟩
          subst hwd
          have hl1000 : l ≤ 1000 := by omega
          by_cases hkl : k ≤ l
          · obtain ⟨l0, hl0⟩ : ∃ l0, l = l0 + 1 := ⟨l - 1, by omega⟩
            have Hl0 := Lib.hid hl0
            have hln : (l : Int) < (n : Int) := by omega
            have hkn2 : (k : Int) < (n : Int) := by omega
            have hwl : (l : Int) - 1 = (l0 : Int) := by omega
            have his : a < d1.size := by have := Hs1.out; omega
            have los : l < d1.size := by have := Hs1.out; omega
            have s0 := HR2.out.1.cell his
            have t0 := HR2.out.1.cell los
            have Hsw := Lib.hid (fun W' (h : ARow W' b c d1) => h.swp a l)
            obtain ⟨x2, hx⟩ : ∃ x, d1[a]! = x := ⟨_, rfl⟩
            obtain ⟨y2, hy⟩ : ∃ y, d1[l]! = y := ⟨_, rfl⟩
            rw [hx] at s0 Hsw
            rw [hy] at t0 Hsw
            have S0 := Lib.hid s0
            have T0 := Lib.hid t0
            have Hsd := Lib.hid (show Sort.scanDown (fun x => Sort.ltInt d1[a]! x) d1 k l = if decide (x2 < y2) then Sort.scanDown (fun x => Sort.ltInt d1[a]! x) d1 k l0 else l from by
              rw [hl0, Sort.scanDown, ← hl0, hx, hy]
              by_cases h : x2 < y2 <;> simp [hkl, Sort.ltInt, h])
            have hl := less_any x2 y2
            clear hx hy S0 T0 Hsw hl0
            go_wp2_with fail
            have p0 := fun w' (hk : KeepsBut [] wd.drew w') => hk.cell (p := ⟨b, a, none⟩) s0 (by simp)
            have p1 := fun w' (hk : KeepsBut [] wd.drew w') => hk.cell (p := ⟨b, l, none⟩) t0 (by simp)
            have HR5 := Lib.hid (show SrtOut W wd.drew b c d1 from ⟨HR2.out.1.drew, HR2.out.2.drew⟩)
            have S0 := Lib.hid (show wd.drew.cell? ⟨b, a, none⟩ = some (.int .u64 x2) from s0)
            have T0 := Lib.hid (show wd.drew.cell? ⟨b, l, none⟩ = some (.int .u64 y2) from t0)
            clear s0 t0
            refine wp_region_mix3 (KeepsBut []) (KeepsBut.refl []) (KeepsBut.trans []) [] [(0, 0), (0, 1), (0, 2), (0, 3), (0, 4), (0, 5), (0, 6), (0, 8), (0, 9), (0, 10), (1, 7), (1, 11), (2, 12), (0, 13)] (by kernel_rfl) (by kernel_rfl) (fun d _ _ _ _ h => by cases d <;> exact h) ?_
            generalize wd.drew = w5 at p0 p1 HR5 S0 T0 ⊢
            repeat ((first | (refine mix3_free (v := ?_) rfl rfl ?_ (mix3_norm (a' := ?_) ?_ ?_); rotate_left; focus (intro w'; go_simp; first | done | (with_reducible rfl))) | (refine mix3_pure (v := ?_) rfl rfl ?_ (mix3_norm (a' := ?_) ?_ ?_); rotate_left; focus (intro w' hR; go_simp; first | done | (with_reducible rfl))) | refine mix3_freeOff rfl rfl (mix3_norm (a' := ?_) ?_ ?_) | refine mix3_off rfl rfl (mix3_norm (a' := ?_) ?_ ?_)); rotate_left; focus (simp only [Act.put, List.getElem_toArray, List.getElem_cons_zero, List.getElem_cons_succ, List.setIfInBounds_toArray, List.set_cons_zero, List.set_cons_succ]; rfl))
            clear p0 p1
            by_cases hxy : x2 < y2
            · have hlt : Sort.ltInt x2 y2 = true := decide_eq_true hxy
              rw [hlt] at hl
              have hsd := Hsd.out
              rw [if_pos (decide_eq_true hxy)] at hsd
              have HJ2 := Lib.hid (hsd.symm.trans HJ.out)
              clear hsd Hsd HJ hxy S0 T0
              refine mix3_eff rfl ?_
              simp only [List.getElem_toArray, List.getElem_cons_zero, List.getElem_cons_succ]
              go_wp2_with fail
              refine (hl _).mono ?_
              rintro r' w3 ⟨rfl, rfl⟩
              go_wp2_with fail
              refine mixQ3_normal (KeepsBut.refl _ _) rfl ?_
              repeat ((first | (refine mix3_free (v := ?_) rfl rfl ?_ (mix3_norm (a' := ?_) ?_ ?_); rotate_left; focus (intro w'; go_simp; first | done | (with_reducible rfl))) | (refine mix3_pure (v := ?_) rfl rfl ?_ (mix3_norm (a' := ?_) ?_ ?_); rotate_left; focus (intro w' hR; go_simp; first | done | (with_reducible rfl))) | refine mix3_freeOff rfl rfl (mix3_norm (a' := ?_) ?_ ?_) | refine mix3_off rfl rfl (mix3_norm (a' := ?_) ?_ ?_)); rotate_left; focus (simp only [Act.put, List.getElem_toArray, List.getElem_cons_zero, List.getElem_cons_succ, List.setIfInBounds_toArray, List.set_cons_zero, List.set_cons_succ]; rfl))
              refine mix3_done ?_
              go_wp2_with fail
              case roundEnd =>
                have := Hl0.out
                exact ⟨⟨l0, by omega, by omega, rfl, HR5, HJ2⟩, by simp only [intOf]; omega⟩
            · have hlt : Sort.ltInt x2 y2 = false := decide_eq_false hxy
              rw [hlt] at hl
              have hsd := Hsd.out
              rw [if_neg (by rw [decide_eq_false hxy]; decide)] at hsd
              have hX := HE.out
              rw [Sort.partEqLoop_eq, HK.out, HJ.out.symm.trans hsd, if_neg (by omega), show l - 1 = l0 by have := Hl0.out; omega] at hX
              have HX := Lib.hid hX
              have hgt : ¬ (l : Int) < (k : Int) := by omega
              clear hsd Hsd HJ hxy hX S0 T0
              refine mix3_eff rfl ?_
              simp only [List.getElem_toArray, List.getElem_cons_zero, List.getElem_cons_succ]
              go_wp2_with fail
              refine (hl _).mono ?_
              rintro r' w3 ⟨rfl, rfl⟩
              go_wp2_with fail
              refine mixQ3_normal (KeepsBut.refl _ _) rfl ?_
              repeat ((first | (refine mix3_free (v := ?_) rfl rfl ?_ (mix3_norm (a' := ?_) ?_ ?_); rotate_left; focus (intro w'; go_simp; first | done | (with_reducible rfl))) | (refine mix3_pure (v := ?_) rfl rfl ?_ (mix3_norm (a' := ?_) ?_ ?_); rotate_left; focus (intro w' hR; go_simp; first | done | (with_reducible rfl))) | refine mix3_freeOff rfl rfl (mix3_norm (a' := ?_) ?_ ?_) | refine mix3_off rfl rfl (mix3_norm (a' := ?_) ?_ ?_)); rotate_left; focus (simp only [Act.put, List.getElem_toArray, List.getElem_cons_zero, List.getElem_cons_succ, List.setIfInBounds_toArray, List.set_cons_zero, List.set_cons_succ]; rfl))
              refine mix3_done ?_
              go_wp2_with fail
              have his : k < d1.size := by have := Hs1.out; omega
              have los : l < d1.size := by have := Hs1.out; omega
              have s0 := HR5.out.1.cell his
              have t0 := HR5.out.1.cell los
              have Hsw := Lib.hid (fun W' (h : ARow W' b c d1) => h.swp k l)
              obtain ⟨x3, hx⟩ : ∃ x, d1[k]! = x := ⟨_, rfl⟩
              obtain ⟨y3, hy⟩ : ∃ y, d1[l]! = y := ⟨_, rfl⟩
              rw [hx] at s0 Hsw
              rw [hy] at t0 Hsw
              have S0 := Lib.hid s0
              have T0 := Lib.hid t0
              clear hx hy s0 t0
              have s0 := S0.out
              have t0 := T0.out
              have p0 := fun w' (hk : KeepsBut [] w5.drew w') => hk.cell (p := ⟨b, k, none⟩) s0 (by simp)
              have p1 := fun w' (hk : KeepsBut [] w5.drew w') => hk.cell (p := ⟨b, l, none⟩) t0 (by simp)
              have HA := HR5.out.1.drew
              have HR6 := Lib.hid (show SrtOut W ((w5.drew.setCell ⟨b, k, none⟩ (.int .u64 y3)).setCell ⟨b, l, none⟩ (.int .u64 x3)) b c (Sort.swp d1 k l) from ⟨Hsw.out _ HA, HR5.out.2.drew.trans (chg_swp w5.drew b k l (.int .u64 y3) (.int .u64 x3)) (fun _ _ h => h)⟩)
              have f0 := HA.frozen k
              have f1 := (HA.set k y3).frozen l
              have c0 : w5.drew.cell? ⟨b, k, none⟩ = some (.int .u64 x3) := s0
              obtain ⟨u1, c1⟩ : ∃ u1, (w5.drew.setCell ⟨b, k, none⟩ (.int .u64 y3)).cell? ⟨b, l, none⟩ = some u1 := ⟨_, (HA.set k y3).cell (by rw [Array.size_setIfInBounds]; exact los)⟩
              clear s0 t0 HA
              refine wp_region_mix3 (KeepsBut []) (KeepsBut.refl []) (KeepsBut.trans []) [13, 15] [(0, 0), (0, 1), (0, 2), (0, 3), (0, 4), (0, 5), (0, 6), (0, 8), (0, 9), (0, 10), (1, 7), (1, 11), (0, 12), (2, 13), (0, 14), (2, 15)] (by kernel_rfl) (by kernel_rfl) (fun d _ _ _ _ h => by cases d <;> exact h) ?_
              generalize w5.drew = w6 at p0 p1 HR6 f0 f1 c0 c1 ⊢
              repeat ((first | (refine mix3_free (v := ?_) rfl rfl ?_ (mix3_norm (a' := ?_) ?_ ?_); rotate_left; focus (intro w'; go_simp; first | done | (with_reducible rfl))) | (refine mix3_pure (v := ?_) rfl rfl ?_ (mix3_norm (a' := ?_) ?_ ?_); rotate_left; focus (intro w' hR; go_simp; first | done | (with_reducible rfl))) | refine mix3_freeOff rfl rfl (mix3_norm (a' := ?_) ?_ ?_) | refine mix3_off rfl rfl (mix3_norm (a' := ?_) ?_ ?_)); rotate_left; focus (simp only [Act.put, List.getElem_toArray, List.getElem_cons_zero, List.getElem_cons_succ, List.setIfInBounds_toArray, List.set_cons_zero, List.set_cons_succ]; rfl))
              refine mix3_eff rfl ?_
              simp only [List.getElem_toArray, List.getElem_cons_zero, List.getElem_cons_succ]
              go_wp2_with fail
              refine mixQ3_last (by simp) rfl ?_
              repeat ((first | (refine mix3_free (v := ?_) rfl rfl ?_ (mix3_norm (a' := ?_) ?_ ?_); rotate_left; focus (intro w'; go_simp; first | done | (with_reducible rfl))) | (refine mix3_pure (v := ?_) rfl rfl ?_ (mix3_norm (a' := ?_) ?_ ?_); rotate_left; focus (intro w' hR; go_simp; first | done | (with_reducible rfl))) | refine mix3_freeOff rfl rfl (mix3_norm (a' := ?_) ?_ ?_) | refine mix3_off rfl rfl (mix3_norm (a' := ?_) ?_ ?_)); rotate_left; focus (simp only [Act.put, List.getElem_toArray, List.getElem_cons_zero, List.getElem_cons_succ, List.setIfInBounds_toArray, List.set_cons_zero, List.set_cons_succ]; rfl))
              refine mix3_eff rfl ?_
              simp only [List.getElem_toArray, List.getElem_cons_zero, List.getElem_cons_succ]
              go_wp2_with fail
              refine mixQ3_last (by simp) rfl ?_
              refine mix3_done ?_
              clear p0 p1 f0 f1 c0 c1
              generalize (w6.setCell ⟨b, k, none⟩ (.int .u64 y3)).setCell ⟨b, l, none⟩ (.int .u64 x3) = w6' at HR6 ⊢
              have HZ9 := Lib.hid (show (Sort.swp d1 k l).size = n by rw [Sort.size_swp]; exact Hs1.out)
              generalize Sort.swp d1 k l = d9 at HR6 HX HZ9
              clear Hsw S0 T0
              go_wp2_with fail
              case roundEnd =>
                have := Hl0.out
                exact ⟨⟨k + 1, l0, d9, by omega, by omega, by omega, by omega, by push_cast; rfl, by first | rfl | (congr 1; omega), HZ9, HR6, HX⟩, by simp only [intOf]; omega⟩
          · have Hge := Lib.hid (show decide (k ≤ l) = false from decide_eq_false hkl)
            have hsd : Sort.scanDown (fun x => Sort.ltInt d1[a]! x) d1 k l = l := by
              cases l with
              | zero => rfl
              | succ l0 => rw [Sort.scanDown]; simp [hkl]
            have hX := HE.out
            rw [Sort.partEqLoop_eq, HK.out, HJ.out.symm.trans hsd, if_pos (by omega)] at hX
            have HX := Lib.hid hX
            have HR5 := Lib.hid (show SrtOut W wd.drew b c d1 from ⟨HR2.out.1.drew, HR2.out.2.drew⟩)
            have hgt : (l : Int) < (k : Int) := by omega
            clear HJ hkl HR2 hX hsd
            go_wp2_with fail
            refine wp_region_mix3 (KeepsBut []) (KeepsBut.refl []) (KeepsBut.trans []) [] [(0, 0), (0, 1), (0, 2), (0, 3), (0, 4), (0, 5), (0, 6), (0, 8), (0, 9), (0, 10), (1, 7), (1, 11), (2, 12), (0, 13)] (by kernel_rfl) (by kernel_rfl) (fun d _ _ _ _ h => by cases d <;> exact h) ?_
            generalize wd.drew = w5 at HR5 ⊢
            have hge := Hge.out
            repeat ((first | (refine mix3_free (v := ?_) rfl rfl ?_ (mix3_norm (a' := ?_) ?_ ?_); rotate_left; focus (intro w'; go_simp; first | done | (with_reducible rfl))) | (refine mix3_pure (v := ?_) rfl rfl ?_ (mix3_norm (a' := ?_) ?_ ?_); rotate_left; focus (intro w' hR; go_simp; first | done | (with_reducible rfl))) | refine mix3_freeOff rfl rfl (mix3_norm (a' := ?_) ?_ ?_) | refine mix3_off rfl rfl (mix3_norm (a' := ?_) ?_ ?_)); rotate_left; focus (simp only [Act.put, List.getElem_toArray, List.getElem_cons_zero, List.getElem_cons_succ, List.setIfInBounds_toArray, List.set_cons_zero, List.set_cons_succ]; rfl))
            refine mix3_skip (KeepsBut.refl []) rfl rfl (mix3_norm (a' := ?_) ?_ ?_)
            rotate_left
            focus (simp only [Act.put, List.getElem_toArray, List.getElem_cons_zero, List.getElem_cons_succ, List.setIfInBounds_toArray, List.set_cons_zero, List.set_cons_succ]; rfl)
            repeat ((first | (refine mix3_free (v := ?_) rfl rfl ?_ (mix3_norm (a' := ?_) ?_ ?_); rotate_left; focus (intro w'; go_simp; first | done | (with_reducible rfl))) | (refine mix3_pure (v := ?_) rfl rfl ?_ (mix3_norm (a' := ?_) ?_ ?_); rotate_left; focus (intro w' hR; go_simp; first | done | (with_reducible rfl))) | refine mix3_freeOff rfl rfl (mix3_norm (a' := ?_) ?_ ?_) | refine mix3_off rfl rfl (mix3_norm (a' := ?_) ?_ ?_)); rotate_left; focus (simp only [Act.put, List.getElem_toArray, List.getElem_cons_zero, List.getElem_cons_succ, List.setIfInBounds_toArray, List.set_cons_zero, List.set_cons_succ]; rfl))
            refine mix3_done ?_
            clear hge Hge
            go_wp2_with fail
            try simp only [Exit.inBlock, Exit.then]
            exact bodyPost_ret (results_tmp rfl _ _ _) rfl ⟨by rw [← HX.out]; rfl, by rw [← HX.out]; exact HR5.out⟩
end Go.Proofs.Ytebcginnnjigjaa

end
section
/- The heap sort at numbers: walked. -/
open Go.RowKit
namespace Go.Proofs.Ytebcginnnjigjaa
set_option maxHeartbeats 4000000 in
set_option maxRecDepth 100000 in
theorem sift_any (W : World) (b c : Nat) (d : Array Int) (lo hi first : Nat) (h : ARow W b c d) (he : first + hi ≤ d.size) (hn : d.size ≤ 1000) (hlo : lo ≤ 1000) :
    Calls Try.prog 94 #[.slice (some ⟨b, 0, none⟩) d.size c, .int .i64 (lo : Nat), .int .i64 (hi : Nat), .int .i64 (first : Nat)] W fun r W' => r = .returned (.tuple #[]) ∧ SrtOut W W' b c (Sort.siftDown Sort.ltInt hi first lo d) := by
  have H := Lib.hid h
  obtain ⟨n, hnd⟩ : ∃ n, n = d.size := ⟨_, rfl⟩
  rw [← hnd] at he hn ⊢
  have Hnd := Lib.hid hnd
  clear h hnd
  have hhi : hi ≤ 1000 := by omega
  have hfi : first ≤ 1000 := by omega
  go_enter Try.func94, Try.ntmps94
  go_wp2_with fail
  go_loopw [8] (fun v wr => ∃ (ro : Nat) (d1 : Array Int), ro ≤ 1000 ∧ v = .int .i64 ro ∧ Hid (d1.size = n) ∧ Hid (SrtOut W wr b c d1) ∧ Hid (Sort.siftDown Sort.ltInt hi first ro d1 = Sort.siftDown Sort.ltInt hi first lo d)) (fun v _ => hi - (intOf v).toNat)
  case atStart => exact ⟨lo, d, hlo, rfl, Lib.hid Hnd.out.symm, Lib.hid ⟨H.out, Chg.refl _ _⟩, Lib.hid rfl⟩
  case round =>
    obtain ⟨ro, d1, hro, rfl, Hs1, HR, HE⟩ := hrel
    obtain ⟨wo, hwo⟩ : ∃ wo : World, wo = wr := ⟨_, rfl⟩
    subst hwo
    by_cases h1 : 2 * ro + 1 ≥ hi
    · have hge : (hi : Int) ≤ 2 * (ro : Int) + 1 := by omega
      have HX := Lib.hid (show d1 = Sort.siftDown Sort.ltInt hi first lo d by
        have h2 := HE.out
        rw [Sort.siftDown, dif_pos h1] at h2
        exact h2)
      go_wp2_with fail
      go_end0
      exact ⟨rfl, by rw [← HX.out]; exact HR.out⟩
    · have hlt : ¬ (hi : Int) ≤ 2 * (ro : Int) + 1 := by omega
      go_wp2_with fail
      obtain ⟨ch, hch⟩ : ∃ ch : Nat, 2 * (ro : Int) + 1 = (ch : Int) := ⟨2 * ro + 1, by push_cast; rfl⟩
      rw [hch]
      have Hch := Lib.hid (show ch = 2 * ro + 1 by omega)
      have hchi : ch < hi := by omega
      have hroc : ro < ch := by omega
      obtain ⟨p, hp⟩ : ∃ p, p = first + ch := ⟨_, rfl⟩
      obtain ⟨r, hr⟩ : ∃ r, r = first + ro := ⟨_, rfl⟩
      have Hp := Lib.hid hp
      have Hr := Lib.hid hr
      have hpn : (p : Int) < (n : Int) := by omega
      have hrn : (r : Int) < (n : Int) := by omega
      have hwp : IntKind.i64.wrap ((first : Int) + (ch : Int)) = (p : Int) := by rw [IntWalk.i64_in ((first : Int) + (ch : Int)) ⟨by omega, by omega⟩]; omega
      have hwr : IntKind.i64.wrap ((first : Int) + (ro : Int)) = (r : Int) := by rw [IntWalk.i64_in ((first : Int) + (ro : Int)) ⟨by omega, by omega⟩]; omega
      clear hlt hch hp hr h1
      by_cases h2 : ch + 1 < hi
      · obtain ⟨ch1, hc1⟩ : ∃ ch1, ch1 = ch + 1 := ⟨_, rfl⟩
        obtain ⟨p1', hp1⟩ : ∃ p1', p1' = p + 1 := ⟨_, rfl⟩
        have Hc1 := Lib.hid hc1
        have Hp1 := Lib.hid hp1
        have hc1i : ch1 < hi := by omega
        have hp1n : (p1' : Int) < (n : Int) := by have := Hp.out; omega
        have hwc1 : IntKind.i64.wrap ((ch : Int) + 1) = (ch1 : Int) := by rw [IntWalk.i64_in ((ch : Int) + 1) ⟨by omega, by omega⟩]; omega
        have hwp1 : IntKind.i64.wrap ((p : Int) + 1) = (p1' : Int) := by rw [IntWalk.i64_in ((p : Int) + 1) ⟨by omega, by omega⟩]; omega
        have hps : p < d1.size := by have := Hs1.out; omega
        have hp1s : p1' < d1.size := by have := Hs1.out; omega
        have s0 := HR.out.1.cell hps
        have t0 := HR.out.1.cell hp1s
        have HS := Lib.hid (show Sort.siftDown Sort.ltInt hi first ro d1 = if Sort.ltInt d1[p]! d1[p1']! then (if !Sort.ltInt d1[first + ro]! d1[first + ch1]! then d1 else Sort.siftDown Sort.ltInt hi first ch1 (Sort.swp d1 (first + ro) (first + ch1))) else (if !Sort.ltInt d1[first + ro]! d1[first + ch]! then d1 else Sort.siftDown Sort.ltInt hi first ch (Sort.swp d1 (first + ro) (first + ch))) from by
          have e1 := Hch.out
          have e2 := Hp.out
          subst e1
          subst e2
          subst hc1
          subst hp1
          rw [Sort.siftDown, dif_neg (by omega)]
          simp only [decide_eq_true h2, Bool.true_and, show 2 * ro + 1 + 1 = 2 * ro + 2 from rfl]
          rw [dif_pos (by omega)])
        obtain ⟨x0, hx0⟩ : ∃ x, d1[p]! = x := ⟨_, rfl⟩
        obtain ⟨y0, hy0⟩ : ∃ y, d1[p1']! = y := ⟨_, rfl⟩
        rw [hx0] at s0 HS
        rw [hy0] at t0 HS
        have hl0 := less_any x0 y0
        have p0 := fun w' (hk : KeepsBut [] wo.drew w') => hk.cell (p := ⟨b, p, none⟩) s0 (by simp)
        have p1 := fun w' (hk : KeepsBut [] wo.drew w') => hk.cell (p := ⟨b, p1', none⟩) t0 (by simp)
        have HRx := Lib.hid (show SrtOut W wo.drew b c d1 from ⟨HR.out.1.drew, HR.out.2.drew⟩)
        clear s0 t0 HR hc1 hp1 hx0 hy0
        refine wp_region_mix3 (KeepsBut []) (KeepsBut.refl []) (KeepsBut.trans []) [] [(0, 0), (0, 1), (0, 2), (0, 3), (0, 4), (0, 5), (0, 6), (0, 7), (0, 8), (0, 9), (0, 11), (0, 12), (0, 13), (0, 14), (0, 15), (0, 16), (1, 10), (1, 17), (2, 18), (0, 19)] (by kernel_rfl) (by kernel_rfl) (fun d _ _ _ _ h => by cases d <;> exact h) ?_
        generalize wo.drew = wx at p0 p1 HRx ⊢
        repeat ((first | (refine mix3_free (v := ?_) rfl rfl ?_ (mix3_norm (a' := ?_) ?_ ?_); rotate_left; focus (intro w'; go_simp; first | done | (with_reducible rfl))) | (refine mix3_pure (v := ?_) rfl rfl ?_ (mix3_norm (a' := ?_) ?_ ?_); rotate_left; focus (intro w' hR; go_simp; first | done | (with_reducible rfl))) | refine mix3_freeOff rfl rfl (mix3_norm (a' := ?_) ?_ ?_) | refine mix3_off rfl rfl (mix3_norm (a' := ?_) ?_ ?_)); rotate_left; focus (simp only [Act.put, List.getElem_toArray, List.getElem_cons_zero, List.getElem_cons_succ, List.setIfInBounds_toArray, List.set_cons_zero, List.set_cons_succ]; rfl))
        clear p0 p1
        by_cases hxy0 : x0 < y0
        · have hlt0 : Sort.ltInt x0 y0 = true := decide_eq_true hxy0
          rw [hlt0] at hl0 HS
          have Hsd := Lib.hid (HS.out.trans (if_pos rfl))
          refine mix3_eff rfl ?_
          simp only [List.getElem_toArray, List.getElem_cons_zero, List.getElem_cons_succ]
          go_wp2_with fail
          refine (hl0 _).mono ?_
          rintro r' w3 ⟨rfl, rfl⟩
          go_wp2_with fail
          refine mixQ3_normal (KeepsBut.refl _ _) rfl ?_
          repeat ((first | (refine mix3_free (v := ?_) rfl rfl ?_ (mix3_norm (a' := ?_) ?_ ?_); rotate_left; focus (intro w'; go_simp; first | done | (with_reducible rfl))) | (refine mix3_pure (v := ?_) rfl rfl ?_ (mix3_norm (a' := ?_) ?_ ?_); rotate_left; focus (intro w' hR; go_simp; first | done | (with_reducible rfl))) | refine mix3_freeOff rfl rfl (mix3_norm (a' := ?_) ?_ ?_) | refine mix3_off rfl rfl (mix3_norm (a' := ?_) ?_ ?_)); rotate_left; focus (simp only [Act.put, List.getElem_toArray, List.getElem_cons_zero, List.getElem_cons_succ, List.setIfInBounds_toArray, List.set_cons_zero, List.set_cons_succ]; rfl))
          refine mix3_done ?_
          go_wp2_with fail
          have hroc1 : ro < ch1 := by have := Hc1.out; omega
          clear hwp hpn hwc1 hwp1 hp1n hps hp1s HS hlt0 hl0 Hch Hc1 Hp Hp1 hchi h2
          obtain ⟨cf, hcf⟩ : ∃ cf, cf = ch1 := ⟨_, rfl⟩
          subst hcf
          obtain ⟨q, hq⟩ : ∃ q, q = first + cf := ⟨_, rfl⟩
          have Hq := Lib.hid hq
          have hqn : (q : Int) < (n : Int) := by omega
          have hwq : IntKind.i64.wrap ((first : Int) + (cf : Int)) = (q : Int) := by rw [IntWalk.i64_in ((first : Int) + (cf : Int)) ⟨by omega, by omega⟩]; omega
          have hqs : q < d1.size := by have := Hs1.out; omega
          have hrs : r < d1.size := by have := Hs1.out; omega
          have s0 := HRx.out.1.cell hrs
          have t0 := HRx.out.1.cell hqs
          have Hsw := Lib.hid (fun W' (h : ARow W' b c d1) => h.swp r q)
          have hsd := Hsd.out
          rw [← Hr.out, ← hq] at hsd
          obtain ⟨x, hx⟩ : ∃ x, d1[r]! = x := ⟨_, rfl⟩
          obtain ⟨y, hy⟩ : ∃ y, d1[q]! = y := ⟨_, rfl⟩
          rw [hx] at s0 Hsw hsd
          rw [hy] at t0 Hsw hsd
          have Hsd := Lib.hid hsd
          have hl := less_any x y
          clear hq hx hy hsd
          have p0 := fun w' (hk : KeepsBut [] wx.drew w') => hk.cell (p := ⟨b, r, none⟩) s0 (by simp)
          have p1 := fun w' (hk : KeepsBut [] wx.drew w') => hk.cell (p := ⟨b, q, none⟩) t0 (by simp)
          have HR2 := Lib.hid (show SrtOut W wx.drew b c d1 from ⟨HRx.out.1.drew, HRx.out.2.drew⟩)
          have S0 := Lib.hid (show wx.drew.cell? ⟨b, r, none⟩ = some (.int .u64 x) from s0)
          have T0 := Lib.hid (show wx.drew.cell? ⟨b, q, none⟩ = some (.int .u64 y) from t0)
          clear s0 t0 HRx
          refine wp_region_mix3 (KeepsBut []) (KeepsBut.refl []) (KeepsBut.trans []) [] [(0, 0), (0, 1), (0, 2), (0, 3), (0, 4), (0, 6), (0, 7), (0, 8), (0, 9), (0, 10), (1, 5), (1, 11), (2, 12), (0, 13)] (by kernel_rfl) (by kernel_rfl) (fun d _ _ _ _ h => by cases d <;> exact h) ?_
          generalize wx.drew = w2 at p0 p1 HR2 S0 T0 ⊢
          repeat ((first | (refine mix3_free (v := ?_) rfl rfl ?_ (mix3_norm (a' := ?_) ?_ ?_); rotate_left; focus (intro w'; go_simp; first | done | (with_reducible rfl))) | (refine mix3_pure (v := ?_) rfl rfl ?_ (mix3_norm (a' := ?_) ?_ ?_); rotate_left; focus (intro w' hR; go_simp; first | done | (with_reducible rfl))) | refine mix3_freeOff rfl rfl (mix3_norm (a' := ?_) ?_ ?_) | refine mix3_off rfl rfl (mix3_norm (a' := ?_) ?_ ?_)); rotate_left; focus (simp only [Act.put, List.getElem_toArray, List.getElem_cons_zero, List.getElem_cons_succ, List.setIfInBounds_toArray, List.set_cons_zero, List.set_cons_succ]; rfl))
          clear p0 p1
          by_cases hxy : x < y
          · have hlt : Sort.ltInt x y = true := decide_eq_true hxy
            rw [hlt] at hl
            have hsd := Hsd.out
            rw [hlt, if_neg (by decide)] at hsd
            have Hsd2 := Lib.hid hsd
            clear hsd Hsd
            refine mix3_eff rfl ?_
            simp only [List.getElem_toArray, List.getElem_cons_zero, List.getElem_cons_succ]
            go_wp2_with fail
            refine (hl _).mono ?_
            rintro r' w3 ⟨rfl, rfl⟩
            go_wp2_with fail
            refine mixQ3_normal (KeepsBut.refl _ _) rfl ?_
            repeat ((first | (refine mix3_free (v := ?_) rfl rfl ?_ (mix3_norm (a' := ?_) ?_ ?_); rotate_left; focus (intro w'; go_simp; first | done | (with_reducible rfl))) | (refine mix3_pure (v := ?_) rfl rfl ?_ (mix3_norm (a' := ?_) ?_ ?_); rotate_left; focus (intro w' hR; go_simp; first | done | (with_reducible rfl))) | refine mix3_freeOff rfl rfl (mix3_norm (a' := ?_) ?_ ?_) | refine mix3_off rfl rfl (mix3_norm (a' := ?_) ?_ ?_)); rotate_left; focus (simp only [Act.put, List.getElem_toArray, List.getElem_cons_zero, List.getElem_cons_succ, List.setIfInBounds_toArray, List.set_cons_zero, List.set_cons_succ]; rfl))
            refine mix3_done ?_
            go_wp2_with fail
            have s0 := S0.out
            have t0 := T0.out
            have p0 := fun w' (hk : KeepsBut [] w2.drew w') => hk.cell (p := ⟨b, r, none⟩) s0 (by simp)
            have p1 := fun w' (hk : KeepsBut [] w2.drew w') => hk.cell (p := ⟨b, q, none⟩) t0 (by simp)
            have HA := HR2.out.1.drew
            have HSW := Lib.hid (Hsw.out _ HA)
            have HCh := Lib.hid (HR2.out.2.drew.trans (chg_swp w2.drew b r q (.int .u64 y) (.int .u64 x)) (fun _ _ h => h))
            have f0 := HA.frozen r
            have f1 := (HA.set r y).frozen q
            have c0 : w2.drew.cell? ⟨b, r, none⟩ = some (.int .u64 x) := s0
            obtain ⟨u1, c1⟩ : ∃ u1, (w2.drew.setCell ⟨b, r, none⟩ (.int .u64 y)).cell? ⟨b, q, none⟩ = some u1 := ⟨_, (HA.set r y).cell (by rw [Array.size_setIfInBounds]; exact hqs)⟩
            clear s0 t0 HA S0 T0
            refine wp_region_mix3 (KeepsBut []) (KeepsBut.refl []) (KeepsBut.trans []) [21, 23] [(0, 0), (0, 1), (0, 2), (0, 3), (0, 4), (0, 5), (0, 6), (0, 7), (0, 8), (0, 9), (0, 10), (0, 11), (0, 12), (0, 14), (0, 15), (0, 16), (0, 17), (0, 18), (1, 13), (1, 19), (0, 20), (2, 21), (0, 22), (2, 23)] (by kernel_rfl) (by kernel_rfl) (fun d _ _ _ _ h => by cases d <;> exact h) ?_
            generalize w2.drew = w3 at p0 p1 HSW HCh f0 f1 c0 c1 ⊢
            repeat ((first | (refine mix3_free (v := ?_) rfl rfl ?_ (mix3_norm (a' := ?_) ?_ ?_); rotate_left; focus (intro w'; go_simp; first | done | (with_reducible rfl))) | (refine mix3_pure (v := ?_) rfl rfl ?_ (mix3_norm (a' := ?_) ?_ ?_); rotate_left; focus (intro w' hR; go_simp; first | done | (with_reducible rfl))) | refine mix3_freeOff rfl rfl (mix3_norm (a' := ?_) ?_ ?_) | refine mix3_off rfl rfl (mix3_norm (a' := ?_) ?_ ?_)); rotate_left; focus (simp only [Act.put, List.getElem_toArray, List.getElem_cons_zero, List.getElem_cons_succ, List.setIfInBounds_toArray, List.set_cons_zero, List.set_cons_succ]; rfl))
            refine mix3_eff rfl ?_
            simp only [List.getElem_toArray, List.getElem_cons_zero, List.getElem_cons_succ]
            go_wp2_with fail
            refine mixQ3_last (by simp) rfl ?_
            repeat ((first | (refine mix3_free (v := ?_) rfl rfl ?_ (mix3_norm (a' := ?_) ?_ ?_); rotate_left; focus (intro w'; go_simp; first | done | (with_reducible rfl))) | (refine mix3_pure (v := ?_) rfl rfl ?_ (mix3_norm (a' := ?_) ?_ ?_); rotate_left; focus (intro w' hR; go_simp; first | done | (with_reducible rfl))) | refine mix3_freeOff rfl rfl (mix3_norm (a' := ?_) ?_ ?_) | refine mix3_off rfl rfl (mix3_norm (a' := ?_) ?_ ?_)); rotate_left; focus (simp only [Act.put, List.getElem_toArray, List.getElem_cons_zero, List.getElem_cons_succ, List.setIfInBounds_toArray, List.set_cons_zero, List.set_cons_succ]; rfl))
            refine mix3_eff rfl ?_
            simp only [List.getElem_toArray, List.getElem_cons_zero, List.getElem_cons_succ]
            go_wp2_with fail
            refine mixQ3_last (by simp) rfl ?_
            refine mix3_done ?_
            clear p0 p1 f0 f1 c0 c1
            go_wp2_with fail
            case roundEnd =>
              exact ⟨⟨cf, Sort.swp d1 r q, by omega, rfl, Lib.hid (by rw [Sort.size_swp]; exact Hs1.out), Lib.hid ⟨HSW.out, HCh.out⟩, Lib.hid (Hsd2.out.symm.trans HE.out)⟩, by simp only [intOf]; omega⟩
          · have hlt : Sort.ltInt x y = false := decide_eq_false hxy
            rw [hlt] at hl
            have hsd := Hsd.out
            rw [hlt, if_pos (by decide)] at hsd
            have HX := Lib.hid (show d1 = Sort.siftDown Sort.ltInt hi first lo d from hsd.symm.trans HE.out)
            clear hsd Hsd S0 T0 Hsw
            refine mix3_eff rfl ?_
            simp only [List.getElem_toArray, List.getElem_cons_zero, List.getElem_cons_succ]
            go_wp2_with fail
            refine (hl _).mono ?_
            rintro r' w3 ⟨rfl, rfl⟩
            go_wp2_with fail
            refine mixQ3_normal (KeepsBut.refl _ _) rfl ?_
            repeat ((first | (refine mix3_free (v := ?_) rfl rfl ?_ (mix3_norm (a' := ?_) ?_ ?_); rotate_left; focus (intro w'; go_simp; first | done | (with_reducible rfl))) | (refine mix3_pure (v := ?_) rfl rfl ?_ (mix3_norm (a' := ?_) ?_ ?_); rotate_left; focus (intro w' hR; go_simp; first | done | (with_reducible rfl))) | refine mix3_freeOff rfl rfl (mix3_norm (a' := ?_) ?_ ?_) | refine mix3_off rfl rfl (mix3_norm (a' := ?_) ?_ ?_)); rotate_left; focus (simp only [Act.put, List.getElem_toArray, List.getElem_cons_zero, List.getElem_cons_succ, List.setIfInBounds_toArray, List.set_cons_zero, List.set_cons_succ]; rfl))
            refine mix3_done ?_
            go_wp2_with fail
            try simp only [Exit.inBlock, Exit.then]
            exact bodyPost_ret (results_none rfl _ _ _) rfl ⟨rfl, by rw [← HX.out]; exact HR2.out⟩
        · have hlt0 : Sort.ltInt x0 y0 = false := decide_eq_false hxy0
          rw [hlt0] at hl0 HS
          have Hsd := Lib.hid (HS.out.trans (if_neg (by decide)))
          refine mix3_eff rfl ?_
          simp only [List.getElem_toArray, List.getElem_cons_zero, List.getElem_cons_succ]
          go_wp2_with fail
          refine (hl0 _).mono ?_
          rintro r' w3 ⟨rfl, rfl⟩
          go_wp2_with fail
          refine mixQ3_normal (KeepsBut.refl _ _) rfl ?_
          repeat ((first | (refine mix3_free (v := ?_) rfl rfl ?_ (mix3_norm (a' := ?_) ?_ ?_); rotate_left; focus (intro w'; go_simp; first | done | (with_reducible rfl))) | (refine mix3_pure (v := ?_) rfl rfl ?_ (mix3_norm (a' := ?_) ?_ ?_); rotate_left; focus (intro w' hR; go_simp; first | done | (with_reducible rfl))) | refine mix3_freeOff rfl rfl (mix3_norm (a' := ?_) ?_ ?_) | refine mix3_off rfl rfl (mix3_norm (a' := ?_) ?_ ?_)); rotate_left; focus (simp only [Act.put, List.getElem_toArray, List.getElem_cons_zero, List.getElem_cons_succ, List.setIfInBounds_toArray, List.set_cons_zero, List.set_cons_succ]; rfl))
          refine mix3_done ?_
          go_wp2_with fail
          clear hwp hpn hwc1 hwp1 hp1n hps hp1s HS hlt0 hl0 Hch Hc1 Hp Hp1 h2 hc1i
          obtain ⟨cf, hcf⟩ : ∃ cf, cf = ch := ⟨_, rfl⟩
          subst hcf
          obtain ⟨q, hq⟩ : ∃ q, q = first + cf := ⟨_, rfl⟩
          have Hq := Lib.hid hq
          have hqn : (q : Int) < (n : Int) := by omega
          have hwq : IntKind.i64.wrap ((first : Int) + (cf : Int)) = (q : Int) := by rw [IntWalk.i64_in ((first : Int) + (cf : Int)) ⟨by omega, by omega⟩]; omega
          have hqs : q < d1.size := by have := Hs1.out; omega
          have hrs : r < d1.size := by have := Hs1.out; omega
          have s0 := HRx.out.1.cell hrs
          have t0 := HRx.out.1.cell hqs
          have Hsw := Lib.hid (fun W' (h : ARow W' b c d1) => h.swp r q)
          have hsd := Hsd.out
          rw [← Hr.out, ← hq] at hsd
          obtain ⟨x, hx⟩ : ∃ x, d1[r]! = x := ⟨_, rfl⟩
          obtain ⟨y, hy⟩ : ∃ y, d1[q]! = y := ⟨_, rfl⟩
          rw [hx] at s0 Hsw hsd
          rw [hy] at t0 Hsw hsd
          have Hsd := Lib.hid hsd
          have hl := less_any x y
          clear hq hx hy hsd
          have p0 := fun w' (hk : KeepsBut [] wx.drew w') => hk.cell (p := ⟨b, r, none⟩) s0 (by simp)
          have p1 := fun w' (hk : KeepsBut [] wx.drew w') => hk.cell (p := ⟨b, q, none⟩) t0 (by simp)
          have HR2 := Lib.hid (show SrtOut W wx.drew b c d1 from ⟨HRx.out.1.drew, HRx.out.2.drew⟩)
          have S0 := Lib.hid (show wx.drew.cell? ⟨b, r, none⟩ = some (.int .u64 x) from s0)
          have T0 := Lib.hid (show wx.drew.cell? ⟨b, q, none⟩ = some (.int .u64 y) from t0)
          clear s0 t0 HRx
          refine wp_region_mix3 (KeepsBut []) (KeepsBut.refl []) (KeepsBut.trans []) [] [(0, 0), (0, 1), (0, 2), (0, 3), (0, 4), (0, 6), (0, 7), (0, 8), (0, 9), (0, 10), (1, 5), (1, 11), (2, 12), (0, 13)] (by kernel_rfl) (by kernel_rfl) (fun d _ _ _ _ h => by cases d <;> exact h) ?_
          generalize wx.drew = w2 at p0 p1 HR2 S0 T0 ⊢
          repeat ((first | (refine mix3_free (v := ?_) rfl rfl ?_ (mix3_norm (a' := ?_) ?_ ?_); rotate_left; focus (intro w'; go_simp; first | done | (with_reducible rfl))) | (refine mix3_pure (v := ?_) rfl rfl ?_ (mix3_norm (a' := ?_) ?_ ?_); rotate_left; focus (intro w' hR; go_simp; first | done | (with_reducible rfl))) | refine mix3_freeOff rfl rfl (mix3_norm (a' := ?_) ?_ ?_) | refine mix3_off rfl rfl (mix3_norm (a' := ?_) ?_ ?_)); rotate_left; focus (simp only [Act.put, List.getElem_toArray, List.getElem_cons_zero, List.getElem_cons_succ, List.setIfInBounds_toArray, List.set_cons_zero, List.set_cons_succ]; rfl))
          clear p0 p1
          by_cases hxy : x < y
          · have hlt : Sort.ltInt x y = true := decide_eq_true hxy
            rw [hlt] at hl
            have hsd := Hsd.out
            rw [hlt, if_neg (by decide)] at hsd
            have Hsd2 := Lib.hid hsd
            clear hsd Hsd
            refine mix3_eff rfl ?_
            simp only [List.getElem_toArray, List.getElem_cons_zero, List.getElem_cons_succ]
            go_wp2_with fail
            refine (hl _).mono ?_
            rintro r' w3 ⟨rfl, rfl⟩
            go_wp2_with fail
            refine mixQ3_normal (KeepsBut.refl _ _) rfl ?_
            repeat ((first | (refine mix3_free (v := ?_) rfl rfl ?_ (mix3_norm (a' := ?_) ?_ ?_); rotate_left; focus (intro w'; go_simp; first | done | (with_reducible rfl))) | (refine mix3_pure (v := ?_) rfl rfl ?_ (mix3_norm (a' := ?_) ?_ ?_); rotate_left; focus (intro w' hR; go_simp; first | done | (with_reducible rfl))) | refine mix3_freeOff rfl rfl (mix3_norm (a' := ?_) ?_ ?_) | refine mix3_off rfl rfl (mix3_norm (a' := ?_) ?_ ?_)); rotate_left; focus (simp only [Act.put, List.getElem_toArray, List.getElem_cons_zero, List.getElem_cons_succ, List.setIfInBounds_toArray, List.set_cons_zero, List.set_cons_succ]; rfl))
            refine mix3_done ?_
            go_wp2_with fail
            have s0 := S0.out
            have t0 := T0.out
            have p0 := fun w' (hk : KeepsBut [] w2.drew w') => hk.cell (p := ⟨b, r, none⟩) s0 (by simp)
            have p1 := fun w' (hk : KeepsBut [] w2.drew w') => hk.cell (p := ⟨b, q, none⟩) t0 (by simp)
            have HA := HR2.out.1.drew
            have HSW := Lib.hid (Hsw.out _ HA)
            have HCh := Lib.hid (HR2.out.2.drew.trans (chg_swp w2.drew b r q (.int .u64 y) (.int .u64 x)) (fun _ _ h => h))
            have f0 := HA.frozen r
            have f1 := (HA.set r y).frozen q
            have c0 : w2.drew.cell? ⟨b, r, none⟩ = some (.int .u64 x) := s0
            obtain ⟨u1, c1⟩ : ∃ u1, (w2.drew.setCell ⟨b, r, none⟩ (.int .u64 y)).cell? ⟨b, q, none⟩ = some u1 := ⟨_, (HA.set r y).cell (by rw [Array.size_setIfInBounds]; exact hqs)⟩
            clear s0 t0 HA S0 T0
            refine wp_region_mix3 (KeepsBut []) (KeepsBut.refl []) (KeepsBut.trans []) [21, 23] [(0, 0), (0, 1), (0, 2), (0, 3), (0, 4), (0, 5), (0, 6), (0, 7), (0, 8), (0, 9), (0, 10), (0, 11), (0, 12), (0, 14), (0, 15), (0, 16), (0, 17), (0, 18), (1, 13), (1, 19), (0, 20), (2, 21), (0, 22), (2, 23)] (by kernel_rfl) (by kernel_rfl) (fun d _ _ _ _ h => by cases d <;> exact h) ?_
            generalize w2.drew = w3 at p0 p1 HSW HCh f0 f1 c0 c1 ⊢
            repeat ((first | (refine mix3_free (v := ?_) rfl rfl ?_ (mix3_norm (a' := ?_) ?_ ?_); rotate_left; focus (intro w'; go_simp; first | done | (with_reducible rfl))) | (refine mix3_pure (v := ?_) rfl rfl ?_ (mix3_norm (a' := ?_) ?_ ?_); rotate_left; focus (intro w' hR; go_simp; first | done | (with_reducible rfl))) | refine mix3_freeOff rfl rfl (mix3_norm (a' := ?_) ?_ ?_) | refine mix3_off rfl rfl (mix3_norm (a' := ?_) ?_ ?_)); rotate_left; focus (simp only [Act.put, List.getElem_toArray, List.getElem_cons_zero, List.getElem_cons_succ, List.setIfInBounds_toArray, List.set_cons_zero, List.set_cons_succ]; rfl))
            refine mix3_eff rfl ?_
            simp only [List.getElem_toArray, List.getElem_cons_zero, List.getElem_cons_succ]
            go_wp2_with fail
            refine mixQ3_last (by simp) rfl ?_
            repeat ((first | (refine mix3_free (v := ?_) rfl rfl ?_ (mix3_norm (a' := ?_) ?_ ?_); rotate_left; focus (intro w'; go_simp; first | done | (with_reducible rfl))) | (refine mix3_pure (v := ?_) rfl rfl ?_ (mix3_norm (a' := ?_) ?_ ?_); rotate_left; focus (intro w' hR; go_simp; first | done | (with_reducible rfl))) | refine mix3_freeOff rfl rfl (mix3_norm (a' := ?_) ?_ ?_) | refine mix3_off rfl rfl (mix3_norm (a' := ?_) ?_ ?_)); rotate_left; focus (simp only [Act.put, List.getElem_toArray, List.getElem_cons_zero, List.getElem_cons_succ, List.setIfInBounds_toArray, List.set_cons_zero, List.set_cons_succ]; rfl))
            refine mix3_eff rfl ?_
            simp only [List.getElem_toArray, List.getElem_cons_zero, List.getElem_cons_succ]
            go_wp2_with fail
            refine mixQ3_last (by simp) rfl ?_
            refine mix3_done ?_
            clear p0 p1 f0 f1 c0 c1
            go_wp2_with fail
            case roundEnd =>
              exact ⟨⟨cf, Sort.swp d1 r q, by omega, rfl, Lib.hid (by rw [Sort.size_swp]; exact Hs1.out), Lib.hid ⟨HSW.out, HCh.out⟩, Lib.hid (Hsd2.out.symm.trans HE.out)⟩, by simp only [intOf]; omega⟩
          · have hlt : Sort.ltInt x y = false := decide_eq_false hxy
            rw [hlt] at hl
            have hsd := Hsd.out
            rw [hlt, if_pos (by decide)] at hsd
            have HX := Lib.hid (show d1 = Sort.siftDown Sort.ltInt hi first lo d from hsd.symm.trans HE.out)
            clear hsd Hsd S0 T0 Hsw
            refine mix3_eff rfl ?_
            simp only [List.getElem_toArray, List.getElem_cons_zero, List.getElem_cons_succ]
            go_wp2_with fail
            refine (hl _).mono ?_
            rintro r' w3 ⟨rfl, rfl⟩
            go_wp2_with fail
            refine mixQ3_normal (KeepsBut.refl _ _) rfl ?_
            repeat ((first | (refine mix3_free (v := ?_) rfl rfl ?_ (mix3_norm (a' := ?_) ?_ ?_); rotate_left; focus (intro w'; go_simp; first | done | (with_reducible rfl))) | (refine mix3_pure (v := ?_) rfl rfl ?_ (mix3_norm (a' := ?_) ?_ ?_); rotate_left; focus (intro w' hR; go_simp; first | done | (with_reducible rfl))) | refine mix3_freeOff rfl rfl (mix3_norm (a' := ?_) ?_ ?_) | refine mix3_off rfl rfl (mix3_norm (a' := ?_) ?_ ?_)); rotate_left; focus (simp only [Act.put, List.getElem_toArray, List.getElem_cons_zero, List.getElem_cons_succ, List.setIfInBounds_toArray, List.set_cons_zero, List.set_cons_succ]; rfl))
            refine mix3_done ?_
            go_wp2_with fail
            try simp only [Exit.inBlock, Exit.then]
            exact bodyPost_ret (results_none rfl _ _ _) rfl ⟨rfl, by rw [← HX.out]; exact HR2.out⟩
      · have Hsd := Lib.hid (show Sort.siftDown Sort.ltInt hi first ro d1 = if !Sort.ltInt d1[first + ro]! d1[first + ch]! then d1 else Sort.siftDown Sort.ltInt hi first ch (Sort.swp d1 (first + ro) (first + ch)) from by
          have e1 := Hch.out
          subst e1
          rw [Sort.siftDown, dif_neg (by omega)]
          simp only [decide_eq_false h2, Bool.false_and, Bool.false_eq_true, if_false])
        obtain ⟨ch1, hc1⟩ : ∃ ch1, ch1 = ch + 1 := ⟨_, rfl⟩
        have hwc1 : IntKind.i64.wrap ((ch : Int) + 1) = (ch1 : Int) := by rw [IntWalk.i64_in ((ch : Int) + 1) ⟨by omega, by omega⟩]; omega
        have Hge := Lib.hid (show decide (ch1 < hi) = false from decide_eq_false (by omega))
        have HRx := Lib.hid (show SrtOut W wo.drew b c d1 from ⟨HR.out.1.drew, HR.out.2.drew⟩)
        clear hc1 h2 HR
        refine wp_region_mix3 (KeepsBut []) (KeepsBut.refl []) (KeepsBut.trans []) [] [(0, 0), (0, 1), (0, 2), (0, 3), (0, 4), (0, 5), (0, 6), (0, 7), (0, 8), (0, 9), (0, 11), (0, 12), (0, 13), (0, 14), (0, 15), (0, 16), (1, 10), (1, 17), (2, 18), (0, 19)] (by kernel_rfl) (by kernel_rfl) (fun d _ _ _ _ h => by cases d <;> exact h) ?_
        generalize wo.drew = wx at HRx ⊢
        have hge := Hge.out
        repeat ((first | (refine mix3_free (v := ?_) rfl rfl ?_ (mix3_norm (a' := ?_) ?_ ?_); rotate_left; focus (intro w'; go_simp; first | done | (with_reducible rfl))) | (refine mix3_pure (v := ?_) rfl rfl ?_ (mix3_norm (a' := ?_) ?_ ?_); rotate_left; focus (intro w' hR; go_simp; first | done | (with_reducible rfl))) | refine mix3_freeOff rfl rfl (mix3_norm (a' := ?_) ?_ ?_) | refine mix3_off rfl rfl (mix3_norm (a' := ?_) ?_ ?_)); rotate_left; focus (simp only [Act.put, List.getElem_toArray, List.getElem_cons_zero, List.getElem_cons_succ, List.setIfInBounds_toArray, List.set_cons_zero, List.set_cons_succ]; rfl))
        refine mix3_skip (KeepsBut.refl []) rfl rfl (mix3_norm (a' := ?_) ?_ ?_)
        rotate_left
        focus (simp only [Act.put, List.getElem_toArray, List.getElem_cons_zero, List.getElem_cons_succ, List.setIfInBounds_toArray, List.set_cons_zero, List.set_cons_succ]; rfl)
        repeat ((first | (refine mix3_free (v := ?_) rfl rfl ?_ (mix3_norm (a' := ?_) ?_ ?_); rotate_left; focus (intro w'; go_simp; first | done | (with_reducible rfl))) | (refine mix3_pure (v := ?_) rfl rfl ?_ (mix3_norm (a' := ?_) ?_ ?_); rotate_left; focus (intro w' hR; go_simp; first | done | (with_reducible rfl))) | refine mix3_freeOff rfl rfl (mix3_norm (a' := ?_) ?_ ?_) | refine mix3_off rfl rfl (mix3_norm (a' := ?_) ?_ ?_)); rotate_left; focus (simp only [Act.put, List.getElem_toArray, List.getElem_cons_zero, List.getElem_cons_succ, List.setIfInBounds_toArray, List.set_cons_zero, List.set_cons_succ]; rfl))
        refine mix3_done ?_
        clear hge Hge
        go_wp2_with fail
        clear hwp hpn hwc1 Hch Hp
        obtain ⟨cf, hcf⟩ : ∃ cf, cf = ch := ⟨_, rfl⟩
        subst hcf
        obtain ⟨q, hq⟩ : ∃ q, q = first + cf := ⟨_, rfl⟩
        have Hq := Lib.hid hq
        have hqn : (q : Int) < (n : Int) := by omega
        have hwq : IntKind.i64.wrap ((first : Int) + (cf : Int)) = (q : Int) := by rw [IntWalk.i64_in ((first : Int) + (cf : Int)) ⟨by omega, by omega⟩]; omega
        have hqs : q < d1.size := by have := Hs1.out; omega
        have hrs : r < d1.size := by have := Hs1.out; omega
        have s0 := HRx.out.1.cell hrs
        have t0 := HRx.out.1.cell hqs
        have Hsw := Lib.hid (fun W' (h : ARow W' b c d1) => h.swp r q)
        have hsd := Hsd.out
        rw [← Hr.out, ← hq] at hsd
        obtain ⟨x, hx⟩ : ∃ x, d1[r]! = x := ⟨_, rfl⟩
        obtain ⟨y, hy⟩ : ∃ y, d1[q]! = y := ⟨_, rfl⟩
        rw [hx] at s0 Hsw hsd
        rw [hy] at t0 Hsw hsd
        have Hsd := Lib.hid hsd
        have hl := less_any x y
        clear hq hx hy hsd
        have p0 := fun w' (hk : KeepsBut [] wx.drew w') => hk.cell (p := ⟨b, r, none⟩) s0 (by simp)
        have p1 := fun w' (hk : KeepsBut [] wx.drew w') => hk.cell (p := ⟨b, q, none⟩) t0 (by simp)
        have HR2 := Lib.hid (show SrtOut W wx.drew b c d1 from ⟨HRx.out.1.drew, HRx.out.2.drew⟩)
        have S0 := Lib.hid (show wx.drew.cell? ⟨b, r, none⟩ = some (.int .u64 x) from s0)
        have T0 := Lib.hid (show wx.drew.cell? ⟨b, q, none⟩ = some (.int .u64 y) from t0)
        clear s0 t0 HRx
        refine wp_region_mix3 (KeepsBut []) (KeepsBut.refl []) (KeepsBut.trans []) [] [(0, 0), (0, 1), (0, 2), (0, 3), (0, 4), (0, 6), (0, 7), (0, 8), (0, 9), (0, 10), (1, 5), (1, 11), (2, 12), (0, 13)] (by kernel_rfl) (by kernel_rfl) (fun d _ _ _ _ h => by cases d <;> exact h) ?_
        generalize wx.drew = w2 at p0 p1 HR2 S0 T0 ⊢
        repeat ((first | (refine mix3_free (v := ?_) rfl rfl ?_ (mix3_norm (a' := ?_) ?_ ?_); rotate_left; focus (intro w'; go_simp; first | done | (with_reducible rfl))) | (refine mix3_pure (v := ?_) rfl rfl ?_ (mix3_norm (a' := ?_) ?_ ?_); rotate_left; focus (intro w' hR; go_simp; first | done | (with_reducible rfl))) | refine mix3_freeOff rfl rfl (mix3_norm (a' := ?_) ?_ ?_) | refine mix3_off rfl rfl (mix3_norm (a' := ?_) ?_ ?_)); rotate_left; focus (simp only [Act.put, List.getElem_toArray, List.getElem_cons_zero, List.getElem_cons_succ, List.setIfInBounds_toArray, List.set_cons_zero, List.set_cons_succ]; rfl))
        clear p0 p1
        by_cases hxy : x < y
        · have hlt : Sort.ltInt x y = true := decide_eq_true hxy
          rw [hlt] at hl
          have hsd := Hsd.out
          rw [hlt, if_neg (by decide)] at hsd
          have Hsd2 := Lib.hid hsd
          clear hsd Hsd
          refine mix3_eff rfl ?_
          simp only [List.getElem_toArray, List.getElem_cons_zero, List.getElem_cons_succ]
          go_wp2_with fail
          refine (hl _).mono ?_
          rintro r' w3 ⟨rfl, rfl⟩
          go_wp2_with fail
          refine mixQ3_normal (KeepsBut.refl _ _) rfl ?_
          repeat ((first | (refine mix3_free (v := ?_) rfl rfl ?_ (mix3_norm (a' := ?_) ?_ ?_); rotate_left; focus (intro w'; go_simp; first | done | (with_reducible rfl))) | (refine mix3_pure (v := ?_) rfl rfl ?_ (mix3_norm (a' := ?_) ?_ ?_); rotate_left; focus (intro w' hR; go_simp; first | done | (with_reducible rfl))) | refine mix3_freeOff rfl rfl (mix3_norm (a' := ?_) ?_ ?_) | refine mix3_off rfl rfl (mix3_norm (a' := ?_) ?_ ?_)); rotate_left; focus (simp only [Act.put, List.getElem_toArray, List.getElem_cons_zero, List.getElem_cons_succ, List.setIfInBounds_toArray, List.set_cons_zero, List.set_cons_succ]; rfl))
          refine mix3_done ?_
          go_wp2_with fail
          have s0 := S0.out
          have t0 := T0.out
          have p0 := fun w' (hk : KeepsBut [] w2.drew w') => hk.cell (p := ⟨b, r, none⟩) s0 (by simp)
          have p1 := fun w' (hk : KeepsBut [] w2.drew w') => hk.cell (p := ⟨b, q, none⟩) t0 (by simp)
          have HA := HR2.out.1.drew
          have HSW := Lib.hid (Hsw.out _ HA)
          have HCh := Lib.hid (HR2.out.2.drew.trans (chg_swp w2.drew b r q (.int .u64 y) (.int .u64 x)) (fun _ _ h => h))
          have f0 := HA.frozen r
          have f1 := (HA.set r y).frozen q
          have c0 : w2.drew.cell? ⟨b, r, none⟩ = some (.int .u64 x) := s0
          obtain ⟨u1, c1⟩ : ∃ u1, (w2.drew.setCell ⟨b, r, none⟩ (.int .u64 y)).cell? ⟨b, q, none⟩ = some u1 := ⟨_, (HA.set r y).cell (by rw [Array.size_setIfInBounds]; exact hqs)⟩
          clear s0 t0 HA S0 T0
          refine wp_region_mix3 (KeepsBut []) (KeepsBut.refl []) (KeepsBut.trans []) [21, 23] [(0, 0), (0, 1), (0, 2), (0, 3), (0, 4), (0, 5), (0, 6), (0, 7), (0, 8), (0, 9), (0, 10), (0, 11), (0, 12), (0, 14), (0, 15), (0, 16), (0, 17), (0, 18), (1, 13), (1, 19), (0, 20), (2, 21), (0, 22), (2, 23)] (by kernel_rfl) (by kernel_rfl) (fun d _ _ _ _ h => by cases d <;> exact h) ?_
          generalize w2.drew = w3 at p0 p1 HSW HCh f0 f1 c0 c1 ⊢
          repeat ((first | (refine mix3_free (v := ?_) rfl rfl ?_ (mix3_norm (a' := ?_) ?_ ?_); rotate_left; focus (intro w'; go_simp; first | done | (with_reducible rfl))) | (refine mix3_pure (v := ?_) rfl rfl ?_ (mix3_norm (a' := ?_) ?_ ?_); rotate_left; focus (intro w' hR; go_simp; first | done | (with_reducible rfl))) | refine mix3_freeOff rfl rfl (mix3_norm (a' := ?_) ?_ ?_) | refine mix3_off rfl rfl (mix3_norm (a' := ?_) ?_ ?_)); rotate_left; focus (simp only [Act.put, List.getElem_toArray, List.getElem_cons_zero, List.getElem_cons_succ, List.setIfInBounds_toArray, List.set_cons_zero, List.set_cons_succ]; rfl))
          refine mix3_eff rfl ?_
          simp only [List.getElem_toArray, List.getElem_cons_zero, List.getElem_cons_succ]
          go_wp2_with fail
          refine mixQ3_last (by simp) rfl ?_
          repeat ((first | (refine mix3_free (v := ?_) rfl rfl ?_ (mix3_norm (a' := ?_) ?_ ?_); rotate_left; focus (intro w'; go_simp; first | done | (with_reducible rfl))) | (refine mix3_pure (v := ?_) rfl rfl ?_ (mix3_norm (a' := ?_) ?_ ?_); rotate_left; focus (intro w' hR; go_simp; first | done | (with_reducible rfl))) | refine mix3_freeOff rfl rfl (mix3_norm (a' := ?_) ?_ ?_) | refine mix3_off rfl rfl (mix3_norm (a' := ?_) ?_ ?_)); rotate_left; focus (simp only [Act.put, List.getElem_toArray, List.getElem_cons_zero, List.getElem_cons_succ, List.setIfInBounds_toArray, List.set_cons_zero, List.set_cons_succ]; rfl))
          refine mix3_eff rfl ?_
          simp only [List.getElem_toArray, List.getElem_cons_zero, List.getElem_cons_succ]
          go_wp2_with fail
          refine mixQ3_last (by simp) rfl ?_
          refine mix3_done ?_
          clear p0 p1 f0 f1 c0 c1
          go_wp2_with fail
          case roundEnd =>
            exact ⟨⟨cf, Sort.swp d1 r q, by omega, rfl, Lib.hid (by rw [Sort.size_swp]; exact Hs1.out), Lib.hid ⟨HSW.out, HCh.out⟩, Lib.hid (Hsd2.out.symm.trans HE.out)⟩, by simp only [intOf]; omega⟩
        · have hlt : Sort.ltInt x y = false := decide_eq_false hxy
          rw [hlt] at hl
          have hsd := Hsd.out
          rw [hlt, if_pos (by decide)] at hsd
          have HX := Lib.hid (show d1 = Sort.siftDown Sort.ltInt hi first lo d from hsd.symm.trans HE.out)
          clear hsd Hsd S0 T0 Hsw
          refine mix3_eff rfl ?_
          simp only [List.getElem_toArray, List.getElem_cons_zero, List.getElem_cons_succ]
          go_wp2_with fail
          refine (hl _).mono ?_
          rintro r' w3 ⟨rfl, rfl⟩
          go_wp2_with fail
          refine mixQ3_normal (KeepsBut.refl _ _) rfl ?_
          repeat ((first | (refine mix3_free (v := ?_) rfl rfl ?_ (mix3_norm (a' := ?_) ?_ ?_); rotate_left; focus (intro w'; go_simp; first | done | (with_reducible rfl))) | (refine mix3_pure (v := ?_) rfl rfl ?_ (mix3_norm (a' := ?_) ?_ ?_); rotate_left; focus (intro w' hR; go_simp; first | done | (with_reducible rfl))) | refine mix3_freeOff rfl rfl (mix3_norm (a' := ?_) ?_ ?_) | refine mix3_off rfl rfl (mix3_norm (a' := ?_) ?_ ?_)); rotate_left; focus (simp only [Act.put, List.getElem_toArray, List.getElem_cons_zero, List.getElem_cons_succ, List.setIfInBounds_toArray, List.set_cons_zero, List.set_cons_succ]; rfl))
          refine mix3_done ?_
          go_wp2_with fail
          try simp only [Exit.inBlock, Exit.then]
          exact bodyPost_ret (results_none rfl _ _ _) rfl ⟨rfl, by rw [← HX.out]; exact HR2.out⟩
end Go.Proofs.Ytebcginnnjigjaa

end
section
/- The heap sort; a range turned round: walked. -/
open Go.RowKit
namespace Go.Proofs.Ytebcginnnjigjaa
set_option maxHeartbeats 4000000 in
set_option maxRecDepth 100000 in
theorem reverse_any (W : World) (b c : Nat) (d : Array Int) (a e : Nat) (h : ARow W b c d) (hae : a < e) (he : e ≤ d.size) (hn : d.size ≤ 1000) :
    Calls Try.prog 86 #[.slice (some ⟨b, 0, none⟩) d.size c, .int .i64 (a : Nat), .int .i64 (e : Nat)] W fun r W' => r = .returned (.tuple #[]) ∧ SrtOut W W' b c (Sort.reverseRange d a e) := by
  have H := Lib.hid h
  obtain ⟨n, hnd⟩ : ∃ n, n = d.size := ⟨_, rfl⟩
  rw [← hnd] at he hn ⊢
  have Hnd := Lib.hid hnd
  obtain ⟨e0, he0⟩ : ∃ e0, e = e0 + 1 := ⟨e - 1, by omega⟩
  subst he0
  rw [show ((e0 + 1 : Nat) : Int) = (e0 : Int) + 1 by push_cast; rfl]
  have he00 : e0 ≤ 1000 := by omega
  have HRv := Lib.hid (show Sort.reverseRange d a (e0 + 1) = Sort.reverseLoop a e0 d from rfl)
  generalize Sort.reverseRange d a (e0 + 1) = dr at HRv ⊢
  clear h hnd
  go_enter Try.func86, Try.ntmps86
  go_wp2_with fail
  go_loopw [6, 7] (fun v u wr => ∃ (i j : Nat) (d1 : Array Int), i ≤ 1001 ∧ j < n ∧ v = .int .i64 i ∧ u = .int .i64 j ∧ Hid (d1.size = n) ∧ Hid (SrtOut W wr b c d1) ∧ Hid (Sort.reverseLoop i j d1 = dr)) (fun v u _ => ((intOf u) + 1001 - intOf v).toNat)
  case atStart => exact ⟨a, e0, d, by omega, by omega, rfl, rfl, Lib.hid Hnd.out.symm, Lib.hid ⟨H.out, Chg.refl _ _⟩, Lib.hid HRv.out.symm⟩
  case round =>
    obtain ⟨i, j, d1, hi, hj, rfl, rfl, Hs1, HR, HE⟩ := hrel
    obtain ⟨wo, hwo⟩ : ∃ wo : World, wo = wr := ⟨_, rfl⟩
    subst hwo
    by_cases hij : i < j
    · have HE1 := HE.out
      rw [Sort.reverseLoop, if_pos hij] at HE1
      have HE1 := Lib.hid HE1
      clear HE
      obtain ⟨j0, hj0⟩ : ∃ j0, j = j0 + 1 := ⟨j - 1, by omega⟩
      have Hj0 := Lib.hid hj0
      have hin : (i : Int) < (n : Int) := by omega
      have hjn : (j : Int) < (n : Int) := by omega
      have his : i < d1.size := by have := Hs1.out; omega
      have hjs : j < d1.size := by have := Hs1.out; omega
      have s0 := HR.out.1.cell his
      have t0 := HR.out.1.cell hjs
      have Hsw := Lib.hid (fun W' (h : ARow W' b c d1) => h.swp i j)
      obtain ⟨x, hx⟩ : ∃ x, d1[i]! = x := ⟨_, rfl⟩
      obtain ⟨y, hy⟩ : ∃ y, d1[j]! = y := ⟨_, rfl⟩
      rw [hx] at s0 Hsw
      rw [hy] at t0 Hsw
      have hj1000 : j ≤ 1000 := by omega
      clear hx hy hj0
      go_wp2_with fail
      have p0 := fun w' (hk : KeepsBut [] wo.drew w') => hk.cell (p := ⟨b, i, none⟩) s0 (by simp)
      have p1 := fun w' (hk : KeepsBut [] wo.drew w') => hk.cell (p := ⟨b, j, none⟩) t0 (by simp)
      have HA := HR.out.1.drew
      have HSW := Lib.hid (Hsw.out _ HA)
      have HCh := Lib.hid (HR.out.2.drew.trans (chg_swp wo.drew b i j (.int .u64 y) (.int .u64 x)) (fun _ _ h => h))
      have f0 := HA.frozen i
      have f1 := (HA.set i y).frozen j
      have c0 : wo.drew.cell? ⟨b, i, none⟩ = some (.int .u64 x) := s0
      obtain ⟨u1, c1⟩ : ∃ u1, (wo.drew.setCell ⟨b, i, none⟩ (.int .u64 y)).cell? ⟨b, j, none⟩ = some u1 := ⟨_, (HA.set i y).cell (by rw [Array.size_setIfInBounds]; exact hjs)⟩
      clear s0 t0 HA
      refine wp_region_mix3 (KeepsBut []) (KeepsBut.refl []) (KeepsBut.trans []) [13, 15] [(0, 0), (0, 1), (0, 2), (0, 3), (0, 4), (0, 5), (0, 6), (0, 8), (0, 9), (0, 10), (1, 7), (1, 11), (0, 12), (2, 13), (0, 14), (2, 15)] (by kernel_rfl) (by kernel_rfl) (fun d _ _ _ _ h => by cases d <;> exact h) ?_
      generalize wo.drew = w3 at p0 p1 HSW HCh f0 f1 c0 c1 ⊢
      repeat ((first | (refine mix3_free (v := ?_) rfl rfl ?_ (mix3_norm (a' := ?_) ?_ ?_); rotate_left; focus (intro w'; go_simp; first | done | (with_reducible rfl))) | (refine mix3_pure (v := ?_) rfl rfl ?_ (mix3_norm (a' := ?_) ?_ ?_); rotate_left; focus (intro w' hR; go_simp; first | done | (with_reducible rfl))) | refine mix3_freeOff rfl rfl (mix3_norm (a' := ?_) ?_ ?_) | refine mix3_off rfl rfl (mix3_norm (a' := ?_) ?_ ?_)); rotate_left; focus (simp only [Act.put, List.getElem_toArray, List.getElem_cons_zero, List.getElem_cons_succ, List.setIfInBounds_toArray, List.set_cons_zero, List.set_cons_succ]; rfl))
      refine mix3_eff rfl ?_
      simp only [List.getElem_toArray, List.getElem_cons_zero, List.getElem_cons_succ]
      go_wp2_with fail
      refine mixQ3_last (by simp) rfl ?_
      repeat ((first | (refine mix3_free (v := ?_) rfl rfl ?_ (mix3_norm (a' := ?_) ?_ ?_); rotate_left; focus (intro w'; go_simp; first | done | (with_reducible rfl))) | (refine mix3_pure (v := ?_) rfl rfl ?_ (mix3_norm (a' := ?_) ?_ ?_); rotate_left; focus (intro w' hR; go_simp; first | done | (with_reducible rfl))) | refine mix3_freeOff rfl rfl (mix3_norm (a' := ?_) ?_ ?_) | refine mix3_off rfl rfl (mix3_norm (a' := ?_) ?_ ?_)); rotate_left; focus (simp only [Act.put, List.getElem_toArray, List.getElem_cons_zero, List.getElem_cons_succ, List.setIfInBounds_toArray, List.set_cons_zero, List.set_cons_succ]; rfl))
      refine mix3_eff rfl ?_
      simp only [List.getElem_toArray, List.getElem_cons_zero, List.getElem_cons_succ]
      go_wp2_with fail
      refine mixQ3_last (by simp) rfl ?_
      refine mix3_done ?_
      clear p0 p1 f0 f1 c0 c1
      go_wp2_with fail
      case roundEnd =>
        have hj := Hj0.out
        exact ⟨⟨i + 1, j0, Sort.swp d1 i j, by omega, by omega, by push_cast; rfl, by rw [hj]; congr 1; push_cast; omega, Lib.hid (by rw [Sort.size_swp]; exact Hs1.out), Lib.hid ⟨HSW.out, HCh.out⟩, Lib.hid (by have h := HE1.out; rw [hj] at h ⊢; exact h)⟩, by simp only [intOf]; omega⟩
    · have HE1 := HE.out
      rw [Sort.reverseLoop, if_neg hij] at HE1
      have HE1 := Lib.hid HE1
      clear HE
      go_wp2_with fail
      go_end0
      exact ⟨rfl, by rw [← HE1.out]; exact HR.out⟩
end Go.Proofs.Ytebcginnnjigjaa

end
section
/- The heap sort: walked. -/
open Go.RowKit
namespace Go.Proofs.Ytebcginnnjigjaa
theorem size_sift {hi first : Nat} : ∀ (k : Nat) (lo : Nat) (d : Array Int), hi - lo ≤ k → (Sort.siftDown Sort.ltInt hi first lo d).size = d.size := by
  intro k
  induction k with
  | zero => intro lo d h; rw [Sort.siftDown, dif_pos (by omega)]
  | succ k ih =>
    intro lo d h
    rw [Sort.siftDown]
    split
    · rfl
    · split
      · split
        · rfl
        · split
          · rw [ih _ _ (by omega), Sort.size_swp]
          · rfl
      · split
        · rfl
        · rw [ih _ _ (by omega), Sort.size_swp]
set_option maxHeartbeats 4000000 in
set_option maxRecDepth 100000 in
theorem heap_any (W : World) (b c : Nat) (d : Array Int) (a e : Nat) (h : ARow W b c d) (hae : a < e) (he : e ≤ d.size) (hn : d.size ≤ 1000) :
    Calls Try.prog 83 #[.slice (some ⟨b, 0, none⟩) d.size c, .int .i64 (a : Nat), .int .i64 (e : Nat)] W fun r W' => r = .returned (.tuple #[]) ∧ SrtOut W W' b c (Sort.heapSort Sort.ltInt d a e) := by
  have H := Lib.hid h
  obtain ⟨n, hnd⟩ : ∃ n, n = d.size := ⟨_, rfl⟩
  rw [← hnd] at he hn ⊢
  have Hnd := Lib.hid hnd
  obtain ⟨hi, hhi⟩ : ∃ hi : Nat, (e : Int) - (a : Int) = (hi : Int) := ⟨e - a, by omega⟩
  have Hhi := Lib.hid (show hi = e - a by omega)
  have hi1 : 1 ≤ hi := by omega
  have hi2 : hi ≤ 1000 := by omega
  have Hle := Lib.hid (show a + hi ≤ n by omega)
  obtain ⟨k0, hk0⟩ : ∃ k0, k0 = (hi - 1) / 2 + 1 := ⟨_, rfl⟩
  have hk1 : k0 ≤ 501 := by omega
  have hq : ((hi : Int) - 1).tdiv 2 = (k0 : Int) - 1 := by
    rw [Int.tdiv_eq_ediv_of_nonneg (by omega)]
    omega
  have HHs := Lib.hid (show Sort.heapSort Sort.ltInt d a e = Sort.heapPop Sort.ltInt a hi (Sort.heapBuild Sort.ltInt hi a k0 d) from by unfold Sort.heapSort; rw [hk0, Hhi.out])
  generalize Sort.heapSort Sort.ltInt d a e = dr at HHs ⊢
  clear h hnd hk0
  go_enter Try.func83, Try.ntmps83
  go_wp2_with fail
  clear hq
  go_loopw [9] (fun v wr => ∃ (k : Nat) (d1 : Array Int), k ≤ 501 ∧ v = .int .i64 ((k : Int) - 1) ∧ Hid (d1.size = n) ∧ Hid (SrtOut W wr b c d1) ∧ Hid (dr = Sort.heapPop Sort.ltInt a hi (Sort.heapBuild Sort.ltInt hi a k d1))) (fun v _ => (intOf v + 1).toNat)
  case atStart => exact ⟨k0, d, hk1, rfl, Lib.hid Hnd.out.symm, Lib.hid ⟨H.out, Chg.refl _ _⟩, HHs⟩
  case round =>
    clear HHs
    obtain ⟨k, d1, hk, rfl, Hs1, HR, HE⟩ := hrel
    obtain ⟨wo, hwo⟩ : ∃ wo : World, wo = wr := ⟨_, rfl⟩
    subst hwo
    cases k with
    | succ m =>
      rw [show ((m + 1 : Nat) : Int) - 1 = (m : Int) by push_cast; omega]
      have HS := Lib.hid (sift_any wo b c d1 m hi a HR.out.1 (by have := Hle.out; have := Hs1.out; omega) (by have := Hs1.out; omega) (by omega))
      rw [Hs1.out] at HS
      have HZ := Lib.hid ((size_sift (hi := hi) (first := a) _ m d1 (Nat.le_refl _)).trans Hs1.out)
      have HE1 := Lib.hid (show dr = Sort.heapPop Sort.ltInt a hi (Sort.heapBuild Sort.ltInt hi a m (Sort.siftDown Sort.ltInt hi a m d1)) from HE.out)
      generalize Sort.siftDown Sort.ltInt hi a m d1 = d2 at HS HZ HE1
      have hm : m ≤ 501 := by omega
      clear HE
      go_wp2_with fail
      refine HS.out.mono ?_
      rintro r w3 ⟨rfl, h3⟩
      have HR3 := Lib.hid (show SrtOut W w3 b c d2 from ⟨h3.1, HR.out.2.trans h3.2 (fun _ _ e => e)⟩)
      clear h3 HS
      go_wp2_with fail
      case roundEnd =>
        exact ⟨⟨m, d2, by omega, rfl, HZ, HR3, HE1⟩, by simp only [intOf]; omega⟩
    | zero =>
      rw [show ((0 : Nat) : Int) - 1 = -1 from rfl]
      have HE1 := Lib.hid (show dr = Sort.heapPop Sort.ltInt a hi d1 from HE.out)
      clear HE
      go_wp2_with fail
      go_loopw [10] (fun v wr => ∃ (k : Nat) (d2 : Array Int), k ≤ hi ∧ v = .int .i64 ((k : Int) - 1) ∧ Hid (d2.size = n) ∧ Hid (SrtOut W wr b c d2) ∧ Hid (dr = Sort.heapPop Sort.ltInt a k d2)) (fun v _ => (intOf v + 1).toNat)
      case atStart => exact ⟨hi, d1, Nat.le_refl _, rfl, Hs1, HR, HE1⟩
      case round =>
        clear HE1 HR
        obtain ⟨k, d2, hk, rfl, Hs2, HR, HE⟩ := hrel
        obtain ⟨wi, hwi⟩ : ∃ wi : World, wi = wr := ⟨_, rfl⟩
        subst hwi
        cases k with
        | succ m =>
          rw [show ((m + 1 : Nat) : Int) - 1 = (m : Int) by push_cast; omega]
          obtain ⟨q, hq⟩ : ∃ q, q = a + m := ⟨_, rfl⟩
          have Hq := Lib.hid hq
          have HE1 := Lib.hid (show dr = Sort.heapPop Sort.ltInt a m (Sort.siftDown Sort.ltInt m a 0 (Sort.swp d2 a q)) from by rw [hq]; exact HE.out)
          have han : (a : Int) < (n : Int) := by omega
          have hqn : (q : Int) < (n : Int) := by have := Hle.out; omega
          have hwq : IntKind.i64.wrap ((a : Int) + (m : Int)) = (q : Int) := by rw [IntWalk.i64_in ((a : Int) + (m : Int)) ⟨by omega, by omega⟩]; omega
          have has : a < d2.size := by have := Hs2.out; omega
          have hqs : q < d2.size := by have := Hs2.out; omega
          have s0 := HR.out.1.cell has
          have t0 := HR.out.1.cell hqs
          have Hsw := Lib.hid (fun W' (h : ARow W' b c d2) => h.swp a q)
          have HSi := Lib.hid (fun W' (h : ARow W' b c (Sort.swp d2 a q)) => sift_any W' b c (Sort.swp d2 a q) 0 m a h (by rw [Sort.size_swp]; omega) (by rw [Sort.size_swp]; have := Hs2.out; omega) (by omega))
          rw [Sort.size_swp, Hs2.out] at HSi
          have HZ := Lib.hid ((size_sift (hi := m) (first := a) _ 0 (Sort.swp d2 a q) (Nat.le_refl _)).trans ((Sort.size_swp d2 a q).trans Hs2.out))
          generalize Sort.swp d2 a q = d3 at Hsw HSi HZ HE1
          generalize Sort.siftDown Sort.ltInt m a 0 d3 = d4 at HSi HZ HE1
          obtain ⟨x, hx⟩ : ∃ x, d2[a]! = x := ⟨_, rfl⟩
          obtain ⟨y, hy⟩ : ∃ y, d2[q]! = y := ⟨_, rfl⟩
          rw [hx] at s0 Hsw
          rw [hy] at t0 Hsw
          have hm : m ≤ 1000 := by omega
          clear hx hy hq HE
          go_wp2_with fail
          have p0 := fun w' (hk : KeepsBut [] wi.drew w') => hk.cell (p := ⟨b, a, none⟩) s0 (by simp)
          have p1 := fun w' (hk : KeepsBut [] wi.drew w') => hk.cell (p := ⟨b, q, none⟩) t0 (by simp)
          have HA := HR.out.1.drew
          have HSW := Lib.hid (Hsw.out _ HA)
          have HCh := Lib.hid (HR.out.2.drew.trans (chg_swp wi.drew b a q (.int .u64 y) (.int .u64 x)) (fun _ _ h => h))
          have f0 := HA.frozen a
          have f1 := (HA.set a y).frozen q
          have c0 : wi.drew.cell? ⟨b, a, none⟩ = some (.int .u64 x) := s0
          obtain ⟨u1, c1⟩ : ∃ u1, (wi.drew.setCell ⟨b, a, none⟩ (.int .u64 y)).cell? ⟨b, q, none⟩ = some u1 := ⟨_, (HA.set a y).cell (by rw [Array.size_setIfInBounds]; exact hqs)⟩
          clear s0 t0 HA HR
          refine wp_region_mix3 (KeepsBut []) (KeepsBut.refl []) (KeepsBut.trans []) [17, 19] [(0, 0), (0, 1), (0, 2), (0, 3), (0, 4), (0, 5), (0, 6), (0, 7), (0, 8), (0, 9), (0, 10), (0, 12), (0, 13), (0, 14), (1, 11), (1, 15), (0, 16), (2, 17), (0, 18), (2, 19)] (by kernel_rfl) (by kernel_rfl) (fun d _ _ _ _ h => by cases d <;> exact h) ?_
          generalize wi.drew = w3 at p0 p1 HSW HCh f0 f1 c0 c1 ⊢
          repeat ((first | (refine mix3_free (v := ?_) rfl rfl ?_ (mix3_norm (a' := ?_) ?_ ?_); rotate_left; focus (intro w'; go_simp; first | done | (with_reducible rfl))) | (refine mix3_pure (v := ?_) rfl rfl ?_ (mix3_norm (a' := ?_) ?_ ?_); rotate_left; focus (intro w' hR; go_simp; first | done | (with_reducible rfl))) | refine mix3_freeOff rfl rfl (mix3_norm (a' := ?_) ?_ ?_) | refine mix3_off rfl rfl (mix3_norm (a' := ?_) ?_ ?_)); rotate_left; focus (simp only [Act.put, List.getElem_toArray, List.getElem_cons_zero, List.getElem_cons_succ, List.setIfInBounds_toArray, List.set_cons_zero, List.set_cons_succ]; rfl))
          refine mix3_eff rfl ?_
          simp only [List.getElem_toArray, List.getElem_cons_zero, List.getElem_cons_succ]
          go_wp2_with fail
          refine mixQ3_last (by simp) rfl ?_
          repeat ((first | (refine mix3_free (v := ?_) rfl rfl ?_ (mix3_norm (a' := ?_) ?_ ?_); rotate_left; focus (intro w'; go_simp; first | done | (with_reducible rfl))) | (refine mix3_pure (v := ?_) rfl rfl ?_ (mix3_norm (a' := ?_) ?_ ?_); rotate_left; focus (intro w' hR; go_simp; first | done | (with_reducible rfl))) | refine mix3_freeOff rfl rfl (mix3_norm (a' := ?_) ?_ ?_) | refine mix3_off rfl rfl (mix3_norm (a' := ?_) ?_ ?_)); rotate_left; focus (simp only [Act.put, List.getElem_toArray, List.getElem_cons_zero, List.getElem_cons_succ, List.setIfInBounds_toArray, List.set_cons_zero, List.set_cons_succ]; rfl))
          refine mix3_eff rfl ?_
          simp only [List.getElem_toArray, List.getElem_cons_zero, List.getElem_cons_succ]
          go_wp2_with fail
          refine mixQ3_last (by simp) rfl ?_
          refine mix3_done ?_
          clear p0 p1 f0 f1 c0 c1
          generalize (w3.setCell ⟨b, a, none⟩ (.int .u64 y)).setCell ⟨b, q, none⟩ (.int .u64 x) = w5 at HSW HCh ⊢
          have HS := Lib.hid (HSi.out _ HSW.out)
          rw [show ((0 : Nat) : Int) = 0 from rfl] at HS
          go_wp2_with fail
          refine HS.out.mono ?_
          rintro r w6 ⟨rfl, h6⟩
          have HR6 := Lib.hid (show SrtOut W w6 b c d4 from ⟨h6.1, HCh.out.trans h6.2 (fun _ _ e => e)⟩)
          clear h6 HS
          go_wp2_with fail
          case roundEnd =>
            exact ⟨⟨m, d4, by omega, rfl, HZ, HR6, HE1⟩, by simp only [intOf]; omega⟩
        | zero =>
          rw [show ((0 : Nat) : Int) - 1 = -1 from rfl]
          have HE1 := Lib.hid (show dr = d2 from HE.out)
          clear HE
          go_wp2_with fail
          go_end0
          exact ⟨rfl, by rw [HE1.out]; exact HR.out⟩
end Go.Proofs.Ytebcginnnjigjaa

end
