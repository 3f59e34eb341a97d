import Derived.Test.YtebcginnnjigjaaC28
import Derived.Test.YtebcginnnjigjaaC2
import Derived.Test.YtebcginnnjigjaaC10
import Derived.Sort.AssemblyPlain
import Derived.Test.YtebcginnnjigjaaC7
section
/- A row of numbers as an array; less. -/
open Go.RowKit
namespace Go.Proofs.Ytebcginnnjigjaa

/-- The array's row. -/
def ARow (W : World) (b c : Nat) (d : Array Int) : Prop := KRow W (some ⟨b, 0, none⟩) c d.toList
section
variable {W W' : World} {b c : Nat} {d : Array Int}
theorem ARow.get {k : Nat} (hk : k < d.size) : d.toList[k]'(by simpa using hk) = d[k]! := by
  rw [Array.getElem_toList, getElem!_pos d k hk]
theorem ARow.cell (h : ARow W b c d) {k : Nat} (hk : k < d.size) : W.cell? ⟨b, k, none⟩ = some (.int .u64 d[k]!) := by
  rw [KRow.cell h (k := k) (by simpa using hk), ARow.get hk]
theorem ARow.frozen (h : ARow W b c d) (k : Nat) : W.frozen? ⟨b, k, none⟩ = false := World.ownsRow.frozenAt h k
theorem ARow.chg {F : Nat → Prop} (h : ARow W b c d) (hc : Chg F W W') (hF : ¬ F b) : ARow W' b c d := KRow.chg h hc (fun k hk e => hF (by
  have e1 : b = k := by simpa [blk] using hk
  exact e1 ▸ e))
theorem ARow.below (h : ARow W b c d) (hb : Below W.heap.size W W') : ARow W' b c d := KRow.below h hb
theorem ARow.drew (h : ARow W b c d) : ARow W.drew b c d := h.below (Below.refl _ _).drew
theorem ARow.lt (h : ARow W b c d) : b < W.heap.size := KRow.lt h rfl
theorem us_set (l : List Int) (k : Nat) (x : Int) : (us l).set k (.int .u64 x) = us (l.set k x) := by simp [us, List.map_set]
theorem ARow.set (h : ARow W b c d) (k : Nat) (x : Int) : ARow (W.setCell ⟨b, k, none⟩ (.int .u64 x)) b c (d.setIfInBounds k x) := by
  have h1 := (World.ownsRow.stored h k (.int .u64 x)).1
  rw [us_set] at h1
  unfold ARow KRow
  rw [Array.toList_setIfInBounds, List.length_set]
  exact h1
theorem ARow.swp (h : ARow W b c d) (i j : Nat) : ARow ((W.setCell ⟨b, i, none⟩ (.int .u64 d[j]!)).setCell ⟨b, j, none⟩ (.int .u64 d[i]!)) b c (Sort.swp d i j) := (h.set i _).set j _
theorem chg_swp (W : World) (b i j : Nat) (u v : Value) : Chg (fun k => k = b) W ((W.setCell ⟨b, i, none⟩ u).setCell ⟨b, j, none⟩ v) := ((Chg.refl (fun k => k = b) W).set b i u (fun _ => rfl)).set b j v (fun _ => rfl)
end
theorem isNaN_any (x : Int) (W : World) : Calls Try.prog 99 #[.int .u64 x] W fun e W' => e = .returned (.bool false) ∧ W = W' := by
  have h : (x != x) = false := by simp
  go_enter Try.func99, Try.ntmps99
  go_wp2_with fail
  go_ret
  exact ⟨rfl, rfl⟩
theorem less_any (x y : Int) (W : World) : Calls Try.prog 88 #[.int .u64 x, .int .u64 y] W fun e W' => e = .returned (.bool (Sort.ltInt x y)) ∧ W = W' := by
  unfold Sort.ltInt
  go_enter Try.func88, Try.ntmps88
  go_wp2_with fail
  refine (isNaN_any x W).mono ?_
  rintro e w1 ⟨rfl, rfl⟩
  go_wp2_with fail
  go_ret
  exact ⟨rfl, rfl⟩
end Go.Proofs.Ytebcginnnjigjaa

end
section
/- The insertion sort at numbers: walked. -/
open Go.RowKit
namespace Go.Proofs.Ytebcginnnjigjaa
/-- What a step of the sort leaves. -/
def SrtOut (W W' : World) (b c : Nat) (d : Array Int) : Prop := ARow W' b c d ∧ Chg (fun k => k = b) W W'
theorem insInner_stop {a j : Nat} {d : Array Int} (h : ¬ a < j) : Sort.insInner Sort.ltInt a j d = d := by
  cases j with
  | zero => rfl
  | succ j => unfold Sort.insInner; rw [if_neg (by simp; omega)]
set_option maxHeartbeats 4000000 in
set_option maxRecDepth 100000 in
theorem insertion_any (W : World) (b c : Nat) (d : Array Int) (a e : Nat) (h : ARow W b c d) (he : e ≤ d.size) (hn : d.size ≤ 1000) (ha : a ≤ 1000) :
    Calls Try.prog 82 #[.slice (some ⟨b, 0, none⟩) d.size c, .int .i64 (a : Nat), .int .i64 (e : Nat)] W fun r W' => r = .returned (.tuple #[]) ∧ SrtOut W W' b c (Sort.insertionSort Sort.ltInt d a e) := by
  have H := Lib.hid h
  have hsz : ∃ n, n = d.size := ⟨_, rfl⟩
  obtain ⟨n, hnd⟩ := hsz
  rw [← hnd] at he hn ⊢
  have Hnd := Lib.hid hnd
  clear h hnd
  go_enter Try.func82, Try.ntmps82
  go_wp2_with fail
  go_loopw [6] (fun v wr => ∃ (i : Nat) (d1 : Array Int), a + 1 ≤ i ∧ i ≤ 1001 ∧ v = .int .i64 i ∧ Hid (d1.size = n) ∧ Hid (SrtOut W wr b c d1) ∧ Hid (Sort.insOuter Sort.ltInt a e i d1 = Sort.insertionSort Sort.ltInt d a e)) (fun v _ => e - (intOf v).toNat)
  case atStart => exact ⟨a + 1, d, Nat.le_refl _, by omega, by push_cast; rfl, Lib.hid Hnd.out.symm, Lib.hid ⟨H.out, Chg.refl _ _⟩, Lib.hid rfl⟩
  case round =>
    obtain ⟨i, d1, hi, hi1, rfl, Hs1, HR, HE⟩ := hrel
    obtain ⟨wo, hwo⟩ : ∃ wo : World, wo = wr := ⟨_, rfl⟩
    subst hwo
    by_cases hie : i < e
    · have HE1 := HE.out
      rw [Sort.insOuter, if_pos hie] at HE1
      have HE1 := Lib.hid HE1
      clear HE
      go_wp2_with fail
      go_loopw [7] (fun v wi => ∃ (j : Nat) (d2 : Array Int), j ≤ i ∧ v = .int .i64 j ∧ Hid (d2.size = n) ∧ Hid (SrtOut W wi b c d2) ∧ Hid (Sort.insInner Sort.ltInt a j d2 = Sort.insInner Sort.ltInt a i d1)) (fun v _ => (intOf v).toNat)
      case atStart => exact ⟨i, d1, Nat.le_refl _, rfl, Hs1, HR, Lib.hid rfl⟩
      case round =>
        clear HR
        obtain ⟨j, d2, hj, rfl, Hs2, HR, HJ⟩ := hrel
        obtain ⟨wi, hwi⟩ : ∃ wi : World, wi = wr := ⟨_, rfl⟩
        subst hwi
        have hj1000 : j ≤ 1000 := by omega
        by_cases haj : a < j
        · obtain ⟨m, hm⟩ : ∃ m, j = m + 1 := ⟨j - 1, by omega⟩
          have Hm := Lib.hid hm
          have hmn : (m : Int) < (n : Int) := by omega
          have hjn : (j : Int) < (n : Int) := by omega
          have hw : IntKind.i64.wrap ((j : Int) - 1) = (m : Int) := by rw [IntWalk.i64_in ((j : Int) - 1) ⟨by omega, by omega⟩]; omega
          have hjs : j < d2.size := by have := Hs2.out; omega
          have hms : m < d2.size := by have := Hs2.out; omega
          have s0 := HR.out.1.cell hjs
          have t0 := HR.out.1.cell hms
          have Hsw := Lib.hid (fun W' (h : ARow W' b c d2) => h.swp j m)
          obtain ⟨x, hx⟩ : ∃ x, d2[j]! = x := ⟨_, rfl⟩
          obtain ⟨y, hy⟩ : ∃ y, d2[m]! = y := ⟨_, rfl⟩
          rw [hx] at s0 Hsw
          rw [hy] at t0 Hsw
          have Hins := Lib.hid (show Sort.insInner Sort.ltInt a j d2 = if decide (x < y) then Sort.insInner Sort.ltInt a m (Sort.swp d2 j m) else d2 from by
            rw [hm, Sort.insInner, ← hm, hx, hy]
            simp [haj, Sort.ltInt])
          have hl := less_any x y
          clear hm hx hy
          go_wp2_with fail
          have p0 := fun w' (hk : KeepsBut [] wi.drew w') => hk.cell (p := ⟨b, j, none⟩) s0 (by simp)
          have p1 := fun w' (hk : KeepsBut [] wi.drew w') => hk.cell (p := ⟨b, m, none⟩) t0 (by simp)
          have HR2 := Lib.hid (show SrtOut W wi.drew b c d2 from ⟨HR.out.1.drew, HR.out.2.drew⟩)
          have S0 := Lib.hid (show wi.drew.cell? ⟨b, j, none⟩ = some (.int .u64 x) from s0)
          have T0 := Lib.hid (show wi.drew.cell? ⟨b, m, none⟩ = some (.int .u64 y) from t0)
          clear s0 t0
          refine wp_region_mix3 (KeepsBut []) (KeepsBut.refl []) (KeepsBut.trans []) [] [(0, 0), (0, 1), (0, 2), (0, 3), (0, 4), (0, 5), (0, 6), (0, 8), (0, 9), (0, 10), (0, 11), (1, 7), (1, 12), (2, 13), (0, 14)] (by kernel_rfl) (by kernel_rfl) (fun d _ _ _ _ h => by cases d <;> exact h) ?_
          generalize wi.drew = w2 at p0 p1 HR2 S0 T0 ⊢
          repeat ((first | (refine mix3_free (v := ?_) rfl rfl ?_ (mix3_norm (a' := ?_) ?_ ?_); rotate_left; focus (intro w'; go_simp; first | done | (with_reducible rfl))) | (refine mix3_pure (v := ?_) rfl rfl ?_ (mix3_norm (a' := ?_) ?_ ?_); rotate_left; focus (intro w' hR; go_simp; first | done | (with_reducible rfl))) | refine mix3_freeOff rfl rfl (mix3_norm (a' := ?_) ?_ ?_) | refine mix3_off rfl rfl (mix3_norm (a' := ?_) ?_ ?_)); rotate_left; focus (simp only [Act.put, List.getElem_toArray, List.getElem_cons_zero, List.getElem_cons_succ, List.setIfInBounds_toArray, List.set_cons_zero, List.set_cons_succ]; rfl))
          clear p0 p1
          by_cases hxy : x < y
          · have hlt : Sort.ltInt x y = true := decide_eq_true hxy
            rw [hlt] at hl
            have Hins2 := Hins.out
            rw [if_pos (decide_eq_true hxy)] at Hins2
            have Hins2 := Lib.hid Hins2
            clear Hins
            refine mix3_eff rfl ?_
            simp only [List.getElem_toArray, List.getElem_cons_zero, List.getElem_cons_succ]
            go_wp2_with fail
            refine (hl _).mono ?_
            rintro r w3 ⟨rfl, rfl⟩
            go_wp2_with fail
            refine mixQ3_normal (KeepsBut.refl _ _) rfl ?_
            repeat ((first | (refine mix3_free (v := ?_) rfl rfl ?_ (mix3_norm (a' := ?_) ?_ ?_); rotate_left; focus (intro w'; go_simp; first | done | (with_reducible rfl))) | (refine mix3_pure (v := ?_) rfl rfl ?_ (mix3_norm (a' := ?_) ?_ ?_); rotate_left; focus (intro w' hR; go_simp; first | done | (with_reducible rfl))) | refine mix3_freeOff rfl rfl (mix3_norm (a' := ?_) ?_ ?_) | refine mix3_off rfl rfl (mix3_norm (a' := ?_) ?_ ?_)); rotate_left; focus (simp only [Act.put, List.getElem_toArray, List.getElem_cons_zero, List.getElem_cons_succ, List.setIfInBounds_toArray, List.set_cons_zero, List.set_cons_succ]; rfl))
            refine mix3_done ?_
            go_wp2_with fail
            have s0 := S0.out
            have t0 := T0.out
            have p0 := fun w' (hk : KeepsBut [] w2.drew w') => hk.cell (p := ⟨b, j, none⟩) s0 (by simp)
            have p1 := fun w' (hk : KeepsBut [] w2.drew w') => hk.cell (p := ⟨b, m, none⟩) t0 (by simp)
            have HA := HR2.out.1.drew
            have HSW := Lib.hid (Hsw.out _ HA)
            have HCh := Lib.hid (HR2.out.2.drew.trans (chg_swp w2.drew b j m (.int .u64 y) (.int .u64 x)) (fun _ _ h => h))
            have f0 := HA.frozen j
            have f1 := (HA.set j y).frozen m
            have c0 : w2.drew.cell? ⟨b, j, none⟩ = some (.int .u64 x) := s0
            obtain ⟨u1, c1⟩ : ∃ u1, (w2.drew.setCell ⟨b, j, none⟩ (.int .u64 y)).cell? ⟨b, m, none⟩ = some u1 := ⟨_, (HA.set j y).cell (by rw [Array.size_setIfInBounds]; exact hms)⟩
            clear s0 t0 HA S0 T0
            refine wp_region_mix3 (KeepsBut []) (KeepsBut.refl []) (KeepsBut.trans []) [15, 17] [(0, 0), (0, 1), (0, 2), (0, 3), (0, 4), (0, 5), (0, 6), (0, 7), (0, 8), (0, 10), (0, 11), (0, 12), (1, 9), (1, 13), (0, 14), (2, 15), (0, 16), (2, 17)] (by kernel_rfl) (by kernel_rfl) (fun d _ _ _ _ h => by cases d <;> exact h) ?_
            generalize w2.drew = w3 at p0 p1 HSW HCh f0 f1 c0 c1 ⊢
            repeat ((first | (refine mix3_free (v := ?_) rfl rfl ?_ (mix3_norm (a' := ?_) ?_ ?_); rotate_left; focus (intro w'; go_simp; first | done | (with_reducible rfl))) | (refine mix3_pure (v := ?_) rfl rfl ?_ (mix3_norm (a' := ?_) ?_ ?_); rotate_left; focus (intro w' hR; go_simp; first | done | (with_reducible rfl))) | refine mix3_freeOff rfl rfl (mix3_norm (a' := ?_) ?_ ?_) | refine mix3_off rfl rfl (mix3_norm (a' := ?_) ?_ ?_)); rotate_left; focus (simp only [Act.put, List.getElem_toArray, List.getElem_cons_zero, List.getElem_cons_succ, List.setIfInBounds_toArray, List.set_cons_zero, List.set_cons_succ]; rfl))
            refine mix3_eff rfl ?_
            simp only [List.getElem_toArray, List.getElem_cons_zero, List.getElem_cons_succ]
            go_wp2_with fail
            refine mixQ3_last (by simp) rfl ?_
            repeat ((first | (refine mix3_free (v := ?_) rfl rfl ?_ (mix3_norm (a' := ?_) ?_ ?_); rotate_left; focus (intro w'; go_simp; first | done | (with_reducible rfl))) | (refine mix3_pure (v := ?_) rfl rfl ?_ (mix3_norm (a' := ?_) ?_ ?_); rotate_left; focus (intro w' hR; go_simp; first | done | (with_reducible rfl))) | refine mix3_freeOff rfl rfl (mix3_norm (a' := ?_) ?_ ?_) | refine mix3_off rfl rfl (mix3_norm (a' := ?_) ?_ ?_)); rotate_left; focus (simp only [Act.put, List.getElem_toArray, List.getElem_cons_zero, List.getElem_cons_succ, List.setIfInBounds_toArray, List.set_cons_zero, List.set_cons_succ]; rfl))
            refine mix3_eff rfl ?_
            simp only [List.getElem_toArray, List.getElem_cons_zero, List.getElem_cons_succ]
            go_wp2_with fail
            refine mixQ3_last (by simp) rfl ?_
            refine mix3_done ?_
            go_wp2_with fail
            case roundEnd =>
              have hm := Hm.out
              exact ⟨⟨m, Sort.swp d2 j m, by omega, rfl, Lib.hid (by rw [Sort.size_swp]; exact Hs2.out), Lib.hid ⟨HSW.out, HCh.out⟩, Lib.hid (Hins2.out.symm.trans HJ.out)⟩, by simp only [intOf]; omega⟩
          · have hlt : Sort.ltInt x y = false := decide_eq_false hxy
            rw [hlt] at hl
            have Hins2 := Hins.out
            rw [if_neg (by rw [decide_eq_false hxy]; decide)] at Hins2
            have HX := Lib.hid (show Sort.insOuter Sort.ltInt a e (i + 1) d2 = Sort.insertionSort Sort.ltInt d a e by
              have h1 := HJ.out
              rw [Hins2] at h1
              have h2 := HE1.out
              rw [← h1] at h2
              exact h2)
            clear Hins Hins2 S0 T0 Hsw
            refine mix3_eff rfl ?_
            simp only [List.getElem_toArray, List.getElem_cons_zero, List.getElem_cons_succ]
            go_wp2_with fail
            refine (hl _).mono ?_
            rintro r w3 ⟨rfl, rfl⟩
            go_wp2_with fail
            refine mixQ3_normal (KeepsBut.refl _ _) rfl ?_
            repeat ((first | (refine mix3_free (v := ?_) rfl rfl ?_ (mix3_norm (a' := ?_) ?_ ?_); rotate_left; focus (intro w'; go_simp; first | done | (with_reducible rfl))) | (refine mix3_pure (v := ?_) rfl rfl ?_ (mix3_norm (a' := ?_) ?_ ?_); rotate_left; focus (intro w' hR; go_simp; first | done | (with_reducible rfl))) | refine mix3_freeOff rfl rfl (mix3_norm (a' := ?_) ?_ ?_) | refine mix3_off rfl rfl (mix3_norm (a' := ?_) ?_ ?_)); rotate_left; focus (simp only [Act.put, List.getElem_toArray, List.getElem_cons_zero, List.getElem_cons_succ, List.setIfInBounds_toArray, List.set_cons_zero, List.set_cons_succ]; rfl))
            refine mix3_done ?_
            go_wp2_with fail
            case roundEnd =>
              exact ⟨⟨i + 1, d2, by omega, by omega, by push_cast; rfl, Hs2, HR2, HX⟩, by simp only [intOf]; omega⟩
        · have Hge := Lib.hid (show decide (a < j) = false from decide_eq_false haj)
          have HX := Lib.hid (show Sort.insOuter Sort.ltInt a e (i + 1) d2 = Sort.insertionSort Sort.ltInt d a e by
            have h1 := HJ.out
            rw [insInner_stop haj] at h1
            have h2 := HE1.out
            rw [← h1] at h2
            exact h2)
          have HR2 := Lib.hid (show SrtOut W wi.drew b c d2 from ⟨HR.out.1.drew, HR.out.2.drew⟩)
          clear HJ haj HR
          go_wp2_with fail
          refine wp_region_mix3 (KeepsBut []) (KeepsBut.refl []) (KeepsBut.trans []) [] [(0, 0), (0, 1), (0, 2), (0, 3), (0, 4), (0, 5), (0, 6), (0, 8), (0, 9), (0, 10), (0, 11), (1, 7), (1, 12), (2, 13), (0, 14)] (by kernel_rfl) (by kernel_rfl) (fun d _ _ _ _ h => by cases d <;> exact h) ?_
          generalize wi.drew = w2 at HR2 ⊢
          have hge := Hge.out
          repeat ((first | (refine mix3_free (v := ?_) rfl rfl ?_ (mix3_norm (a' := ?_) ?_ ?_); rotate_left; focus (intro w'; go_simp; first | done | (with_reducible rfl))) | (refine mix3_pure (v := ?_) rfl rfl ?_ (mix3_norm (a' := ?_) ?_ ?_); rotate_left; focus (intro w' hR; go_simp; first | done | (with_reducible rfl))) | refine mix3_freeOff rfl rfl (mix3_norm (a' := ?_) ?_ ?_) | refine mix3_off rfl rfl (mix3_norm (a' := ?_) ?_ ?_)); rotate_left; focus (simp only [Act.put, List.getElem_toArray, List.getElem_cons_zero, List.getElem_cons_succ, List.setIfInBounds_toArray, List.set_cons_zero, List.set_cons_succ]; rfl))
          refine mix3_skip (KeepsBut.refl []) rfl rfl (mix3_norm (a' := ?_) ?_ ?_)
          rotate_left
          focus (simp only [Act.put, List.getElem_toArray, List.getElem_cons_zero, List.getElem_cons_succ, List.setIfInBounds_toArray, List.set_cons_zero, List.set_cons_succ]; rfl)
          repeat ((first | (refine mix3_free (v := ?_) rfl rfl ?_ (mix3_norm (a' := ?_) ?_ ?_); rotate_left; focus (intro w'; go_simp; first | done | (with_reducible rfl))) | (refine mix3_pure (v := ?_) rfl rfl ?_ (mix3_norm (a' := ?_) ?_ ?_); rotate_left; focus (intro w' hR; go_simp; first | done | (with_reducible rfl))) | refine mix3_freeOff rfl rfl (mix3_norm (a' := ?_) ?_ ?_) | refine mix3_off rfl rfl (mix3_norm (a' := ?_) ?_ ?_)); rotate_left; focus (simp only [Act.put, List.getElem_toArray, List.getElem_cons_zero, List.getElem_cons_succ, List.setIfInBounds_toArray, List.set_cons_zero, List.set_cons_succ]; rfl))
          refine mix3_done ?_
          clear hge Hge
          go_wp2_with fail
          case roundEnd =>
            exact ⟨⟨i + 1, d2, by omega, by omega, by push_cast; rfl, Hs2, HR2, HX⟩, by simp only [intOf]; omega⟩
    · have HE1 := HE.out
      rw [Sort.insOuter, if_neg hie] at HE1
      have HE1 := Lib.hid HE1
      clear HE
      go_wp2_with fail
      go_end0
      exact ⟨rfl, by rw [← HE1.out]; exact HR.out⟩
end Go.Proofs.Ytebcginnnjigjaa

end
section
/- The bounded insertion sort: walked. -/
open Go.RowKit
namespace Go.Proofs.Ytebcginnnjigjaa
set_option maxHeartbeats 16000000 in
set_option maxRecDepth 100000 in
theorem partial_any (W : World) (b c : Nat) (d : Array Int) (a e : Nat) (h : ARow W b c d) (hae : a < e) (he : e ≤ d.size) (hn : d.size ≤ 1000) :
    Calls Try.prog 87 #[.slice (some ⟨b, 0, none⟩) d.size c, .int .i64 (a : Nat), .int .i64 (e : Nat)] W fun r W' =>
      r = .returned (.bool (Sort.partialInsertionSort Sort.ltInt d a e).2) ∧ SrtOut W W' b c (Sort.partialInsertionSort Sort.ltInt d a e).1 := by
  have H := Lib.hid h
  obtain ⟨n, hnd⟩ : ∃ n, n = d.size := ⟨_, rfl⟩
  rw [← hnd] at he hn ⊢
  have Hnd := Lib.hid hnd
  have HP := Lib.hid (show Sort.partialIns Sort.ltInt a e 5 (a + 1) d = Sort.partialInsertionSort Sort.ltInt d a e from rfl)
  clear h hnd
  go_enter Try.func87, Try.ntmps87
  go_wp2_with fail
  go_loopw [7, 8] (fun v u wr => ∃ (i st : Nat) (d1 : Array Int), a + 1 ≤ i ∧ i ≤ e ∧ st ≤ 5 ∧ v = .int .i64 i ∧ u = .int .i64 (5 - (st : Int)) ∧ Hid (d1.size = n) ∧ Hid (SrtOut W wr b c d1) ∧ Hid (Sort.partialIns Sort.ltInt a e st i d1 = Sort.partialInsertionSort Sort.ltInt d a e)) (fun _ u _ => (5 - intOf u).toNat)
  case atStart => exact ⟨a + 1, 5, d, Nat.le_refl _, by omega, Nat.le_refl _, by push_cast; rfl, rfl, Lib.hid Hnd.out.symm, Lib.hid ⟨H.out, Chg.refl _ _⟩, HP⟩
  case round =>
    obtain ⟨i, st, d1, hi, hie, hst, rfl, rfl, Hs1, HR, HE⟩ := hrel
    obtain ⟨wo, hwo⟩ : ∃ wo : World, wo = wr := ⟨_, rfl⟩
    subst hwo
    cases st with
    | zero =>
      rw [show (5 : Int) - ((0 : Nat) : Int) = 5 from rfl]
      have HX := Lib.hid (show (d1, false) = Sort.partialInsertionSort Sort.ltInt d a e from HE.out)
      go_wp2_with fail
      try simp only [Exit.inBlock, Exit.then]
      exact bodyPost_ret (results_tmp rfl _ _ _) rfl ⟨by rw [← HX.out]; rfl, by rw [← HX.out]; exact HR.out⟩
    | succ st =>
      obtain ⟨u, hu⟩ : ∃ u : Nat, (5 : Int) - ((st + 1 : Nat) : Int) = (u : Int) := ⟨4 - st, by omega⟩
      rw [hu]
      have hu5 : u < 5 := by omega
      have Hu := Lib.hid hu
      clear hu HP
      go_wp2_with fail
      generalize decide ((u : Int) < 5) = b14
      go_loopw [7] (fun v wi => ∃ k : Nat, a + 1 ≤ k ∧ k ≤ e ∧ v = .int .i64 k ∧ Hid (SrtOut W wi b c d1) ∧ Hid (Sort.scanSorted Sort.ltInt d1 e k = Sort.scanSorted Sort.ltInt d1 e i)) (fun v _ => (e - intOf v).toNat)
      case atStart => exact ⟨i, hi, hie, rfl, HR, Lib.hid rfl⟩
      case round =>
        clear HR
        obtain ⟨k, hk1, hk2, rfl, HR, HJ⟩ := hrel
        obtain ⟨wi, hwi⟩ : ∃ wi : World, wi = wr := ⟨_, rfl⟩
        subst hwi
        have hk1000 : k ≤ 1000 := by omega
        by_cases hke : k < e
        · obtain ⟨m, hm⟩ : ∃ m, k = m + 1 := ⟨k - 1, by omega⟩
          have Hm := Lib.hid hm
          have hmn : (m : Int) < (n : Int) := by omega
          have hkn : (k : Int) < (n : Int) := by omega
          have hw : IntKind.i64.wrap ((k : Int) - 1) = (m : Int) := by rw [IntWalk.i64_in ((k : Int) - 1) ⟨by omega, by omega⟩]; omega
          have his : k < d1.size := by have := Hs1.out; omega
          have los : m < d1.size := by have := Hs1.out; omega
          have s0 := HR.out.1.cell his
          have t0 := HR.out.1.cell los
          have Hsw := Lib.hid (fun W' (h : ARow W' b c d1) => h.swp k m)
          obtain ⟨x, hx⟩ : ∃ x, d1[k]! = x := ⟨_, rfl⟩
          obtain ⟨y, hy⟩ : ∃ y, d1[m]! = y := ⟨_, rfl⟩
          rw [hx] at s0 Hsw
          rw [hy] at t0 Hsw
          have S0 := Lib.hid s0
          have T0 := Lib.hid t0
          have Hsc := Lib.hid (show Sort.scanSorted Sort.ltInt d1 e k = if decide (x < y) then k else Sort.scanSorted Sort.ltInt d1 e (k + 1) from by
            rw [Sort.scanSorted, show k - 1 = m by omega, hx, hy]
            by_cases h : x < y <;> simp [hke, Sort.ltInt, h])
          have hl := less_any x y
          clear hm hx hy S0 T0
          go_wp2_with fail
          have p0 := fun w' (hk : KeepsBut [] wi.drew w') => hk.cell (p := ⟨b, k, none⟩) s0 (by simp)
          have p1 := fun w' (hk : KeepsBut [] wi.drew w') => hk.cell (p := ⟨b, m, none⟩) t0 (by simp)
          have HR2 := Lib.hid (show SrtOut W wi.drew b c d1 from ⟨HR.out.1.drew, HR.out.2.drew⟩)
          have S0 := Lib.hid (show wi.drew.cell? ⟨b, k, none⟩ = some (.int .u64 x) from s0)
          have T0 := Lib.hid (show wi.drew.cell? ⟨b, m, none⟩ = some (.int .u64 y) from t0)
          clear s0 t0
          refine wp_region_mix3 (KeepsBut []) (KeepsBut.refl []) (KeepsBut.trans []) [] [(0, 0), (0, 1), (0, 2), (0, 3), (0, 4), (0, 5), (0, 6), (0, 8), (0, 9), (0, 10), (0, 11), (1, 7), (1, 12), (2, 13), (0, 14), (0, 15)] (by kernel_rfl) (by kernel_rfl) (fun d _ _ _ _ h => by cases d <;> exact h) ?_
          generalize wi.drew = w2 at p0 p1 HR2 S0 T0 ⊢
          repeat ((first | (refine mix3_free (v := ?_) rfl rfl ?_ (mix3_norm (a' := ?_) ?_ ?_); rotate_left; focus (intro w'; go_simp; first | done | (with_reducible rfl))) | (refine mix3_pure (v := ?_) rfl rfl ?_ (mix3_norm (a' := ?_) ?_ ?_); rotate_left; focus (intro w' hR; go_simp; first | done | (with_reducible rfl))) | refine mix3_freeOff rfl rfl (mix3_norm (a' := ?_) ?_ ?_) | refine mix3_off rfl rfl (mix3_norm (a' := ?_) ?_ ?_)); rotate_left; focus (simp only [Act.put, List.getElem_toArray, List.getElem_cons_zero, List.getElem_cons_succ, List.setIfInBounds_toArray, List.set_cons_zero, List.set_cons_succ]; rfl))
          clear p0 p1
          by_cases hxy : x < y
          · have hlt : Sort.ltInt x y = true := decide_eq_true hxy
            rw [hlt] at hl
            have hsc := Hsc.out
            rw [if_pos (decide_eq_true hxy)] at hsc
            have HK := Lib.hid (show Sort.scanSorted Sort.ltInt d1 e i = k from HJ.out.symm.trans hsc)
            clear hsc Hsc HJ hxy
            refine mix3_eff rfl ?_
            simp only [List.getElem_toArray, List.getElem_cons_zero, List.getElem_cons_succ]
            go_wp2_with fail
            refine (hl _).mono ?_
            rintro r' w3 ⟨rfl, rfl⟩
            go_wp2_with fail
            refine mixQ3_normal (KeepsBut.refl _ _) rfl ?_
            repeat ((first | (refine mix3_free (v := ?_) rfl rfl ?_ (mix3_norm (a' := ?_) ?_ ?_); rotate_left; focus (intro w'; go_simp; first | done | (with_reducible rfl))) | (refine mix3_pure (v := ?_) rfl rfl ?_ (mix3_norm (a' := ?_) ?_ ?_); rotate_left; focus (intro w' hR; go_simp; first | done | (with_reducible rfl))) | refine mix3_freeOff rfl rfl (mix3_norm (a' := ?_) ?_ ?_) | refine mix3_off rfl rfl (mix3_norm (a' := ?_) ?_ ?_)); rotate_left; focus (simp only [Act.put, List.getElem_toArray, List.getElem_cons_zero, List.getElem_cons_succ, List.setIfInBounds_toArray, List.set_cons_zero, List.set_cons_succ]; rfl))
            refine mix3_done ?_
            have HE1 := HE.out
            rw [Sort.partialIns] at HE1
            simp only [HK.out, if_neg (show ¬ k = e by omega)] at HE1
            have hbe : ((k : Int) == (e : Int)) = false := by rw [beq_eq_false_iff_ne]; omega
            by_cases h50 : e - a < 50
            · rw [if_pos h50] at HE1
              have HX := Lib.hid HE1
              have hl50 : (e : Int) - (a : Int) < 50 := by omega
              clear HE1 Hsw S0 T0
              go_wp2_with fail
              try simp only [Exit.inBlock, Exit.then]
              exact bodyPost_ret (results_tmp rfl _ _ _) rfl ⟨by rw [← HX.out]; rfl, by rw [← HX.out]; exact HR2.out⟩
            · rw [if_neg h50, show k - 1 = m from by have := Hm.out; omega] at HE1
              have HX := Lib.hid HE1
              have hl50 : ¬ (e : Int) - (a : Int) < 50 := by omega
              clear HE1
              go_wp2_with fail
              have s0 := S0.out
              have t0 := T0.out
              have p0 := fun w' (hk : KeepsBut [] w2.drew w') => hk.cell (p := ⟨b, k, none⟩) s0 (by simp)
              have p1 := fun w' (hk : KeepsBut [] w2.drew w') => hk.cell (p := ⟨b, m, none⟩) t0 (by simp)
              have HA := HR2.out.1.drew
              have HRs := Lib.hid (show SrtOut W ((w2.drew.setCell ⟨b, k, none⟩ (.int .u64 y)).setCell ⟨b, m, none⟩ (.int .u64 x)) b c (Sort.swp d1 k m) from ⟨Hsw.out _ HA, HR2.out.2.drew.trans (chg_swp w2.drew b k m (.int .u64 y) (.int .u64 x)) (fun _ _ h => h)⟩)
              have f0 := HA.frozen k
              have f1 := (HA.set k y).frozen m
              have c0 : w2.drew.cell? ⟨b, k, none⟩ = some (.int .u64 x) := s0
              obtain ⟨u1, c1⟩ : ∃ u1, (w2.drew.setCell ⟨b, k, none⟩ (.int .u64 y)).cell? ⟨b, m, none⟩ = some u1 := ⟨_, (HA.set k y).cell (by rw [Array.size_setIfInBounds]; exact los)⟩
              clear s0 t0 HA
              refine wp_region_mix3 (KeepsBut []) (KeepsBut.refl []) (KeepsBut.trans []) [15, 17] [(0, 0), (0, 1), (0, 2), (0, 3), (0, 4), (0, 5), (0, 6), (0, 7), (0, 8), (0, 10), (0, 11), (0, 12), (1, 9), (1, 13), (0, 14), (2, 15), (0, 16), (2, 17)] (by kernel_rfl) (by kernel_rfl) (fun d _ _ _ _ h => by cases d <;> exact h) ?_
              generalize w2.drew = w4 at p0 p1 HRs f0 f1 c0 c1 ⊢
              repeat ((first | (refine mix3_free (v := ?_) rfl rfl ?_ (mix3_norm (a' := ?_) ?_ ?_); rotate_left; focus (intro w'; go_simp; first | done | (with_reducible rfl))) | (refine mix3_pure (v := ?_) rfl rfl ?_ (mix3_norm (a' := ?_) ?_ ?_); rotate_left; focus (intro w' hR; go_simp; first | done | (with_reducible rfl))) | refine mix3_freeOff rfl rfl (mix3_norm (a' := ?_) ?_ ?_) | refine mix3_off rfl rfl (mix3_norm (a' := ?_) ?_ ?_)); rotate_left; focus (simp only [Act.put, List.getElem_toArray, List.getElem_cons_zero, List.getElem_cons_succ, List.setIfInBounds_toArray, List.set_cons_zero, List.set_cons_succ]; rfl))
              refine mix3_eff rfl ?_
              simp only [List.getElem_toArray, List.getElem_cons_zero, List.getElem_cons_succ]
              go_wp2_with fail
              refine mixQ3_last (by simp) rfl ?_
              repeat ((first | (refine mix3_free (v := ?_) rfl rfl ?_ (mix3_norm (a' := ?_) ?_ ?_); rotate_left; focus (intro w'; go_simp; first | done | (with_reducible rfl))) | (refine mix3_pure (v := ?_) rfl rfl ?_ (mix3_norm (a' := ?_) ?_ ?_); rotate_left; focus (intro w' hR; go_simp; first | done | (with_reducible rfl))) | refine mix3_freeOff rfl rfl (mix3_norm (a' := ?_) ?_ ?_) | refine mix3_off rfl rfl (mix3_norm (a' := ?_) ?_ ?_)); rotate_left; focus (simp only [Act.put, List.getElem_toArray, List.getElem_cons_zero, List.getElem_cons_succ, List.setIfInBounds_toArray, List.set_cons_zero, List.set_cons_succ]; rfl))
              refine mix3_eff rfl ?_
              simp only [List.getElem_toArray, List.getElem_cons_zero, List.getElem_cons_succ]
              go_wp2_with fail
              refine mixQ3_last (by simp) rfl ?_
              refine mix3_done ?_
              clear p0 p1 f0 f1 c0 c1
              generalize (w4.setCell ⟨b, k, none⟩ (.int .u64 y)).setCell ⟨b, m, none⟩ (.int .u64 x) = w4' at HRs ⊢
              have HZ3 := Lib.hid (show (Sort.swp d1 k m).size = n by rw [Sort.size_swp]; exact Hs1.out)
              generalize Sort.swp d1 k m = d3 at HRs HX HZ3
              clear Hsw hbe hl50 hw
              by_cases hdn : k - a ≥ 2
              · have hdni : (2 : Int) ≤ (k : Int) - (a : Int) := by omega
                have hxd := HX.out
                rw [if_pos hdn] at hxd
                have HXd := Lib.hid hxd
                have hw : IntKind.i64.wrap ((k : Int) - 1) = (m : Int) := by rw [IntWalk.i64_in ((k : Int) - 1) ⟨by omega, by omega⟩]; have := Hm.out; omega
                have hkm : (k : Int) - 1 = (m : Int) := by have := Hm.out; omega
                clear hxd HX
                go_wp2_with fail
                try generalize decide ((e : Int) - (a : Int) < 50) = b41
                try generalize ((k : Int) == (e : Int)) = b37
                try generalize decide ((2 : Int) ≤ (k : Int) - (a : Int)) = b61
                clear hw hkm
                go_loopw [9] (fun v wi => ∃ (j : Nat) (d4 : Array Int), j ≤ m ∧ v = .int .i64 j ∧ Hid (d4.size = n) ∧ Hid (SrtOut W wi b c d4) ∧ Hid (Sort.shiftDown Sort.ltInt j d4 = Sort.shiftDown Sort.ltInt m d3)) (fun v _ => (intOf v).toNat)
                case atStart => exact ⟨m, d3, Nat.le_refl _, rfl, HZ3, HRs, Lib.hid rfl⟩
                case round =>
                  clear HRs
                  obtain ⟨j, d4, hj1, rfl, Hs4, HR4, HJ4⟩ := hrel
                  obtain ⟨wd, hwd⟩ : ∃ wd : World, wd = wr := ⟨_, rfl⟩
                  subst hwd
                  have hj1000 : j ≤ 1000 := by omega
                  by_cases hj0 : 1 ≤ j
                  · obtain ⟨mj, hmj⟩ : ∃ mj, j = mj + 1 := ⟨j - 1, by omega⟩
                    have Hmj := Lib.hid hmj
                    have hmjn : (mj : Int) < (n : Int) := by omega
                    have hjn : (j : Int) < (n : Int) := by omega
                    have hj0i : (1 : Int) ≤ (j : Int) := by omega
                    have hwj : IntKind.i64.wrap ((j : Int) - 1) = (mj : Int) := by rw [IntWalk.i64_in ((j : Int) - 1) ⟨by omega, by omega⟩]; omega
                    have his : j < d4.size := by have := Hs4.out; omega
                    have los : mj < d4.size := by have := Hs4.out; omega
                    have s0 := HR4.out.1.cell his
                    have t0 := HR4.out.1.cell los
                    have Hsw := Lib.hid (fun W' (h : ARow W' b c d4) => h.swp j mj)
                    obtain ⟨xd, hx⟩ : ∃ x, d4[j]! = x := ⟨_, rfl⟩
                    obtain ⟨yd, hy⟩ : ∃ y, d4[mj]! = y := ⟨_, rfl⟩
                    rw [hx] at s0 Hsw
                    rw [hy] at t0 Hsw
                    have S0 := Lib.hid s0
                    have T0 := Lib.hid t0
                    have Hsd := Lib.hid (show Sort.shiftDown Sort.ltInt j d4 = if decide (xd < yd) then Sort.shiftDown Sort.ltInt mj (Sort.swp d4 j mj) else d4 from by
                      rw [hmj, Sort.shiftDown, ← hmj, hx, hy]
                      by_cases h : xd < yd <;> simp [Sort.ltInt, h])
                    have hl := less_any xd yd
                    clear hmj hx hy S0 T0
                    go_wp2_with fail
                    have p0 := fun w' (hk : KeepsBut [] wd.drew w') => hk.cell (p := ⟨b, j, none⟩) s0 (by simp)
                    have p1 := fun w' (hk : KeepsBut [] wd.drew w') => hk.cell (p := ⟨b, mj, none⟩) t0 (by simp)
                    have HRD := Lib.hid (show SrtOut W wd.drew b c d4 from ⟨HR4.out.1.drew, HR4.out.2.drew⟩)
                    have S0 := Lib.hid (show wd.drew.cell? ⟨b, j, none⟩ = some (.int .u64 xd) from s0)
                    have T0 := Lib.hid (show wd.drew.cell? ⟨b, mj, none⟩ = some (.int .u64 yd) from t0)
                    clear s0 t0
                    refine wp_region_mix3 (KeepsBut []) (KeepsBut.refl []) (KeepsBut.trans []) [] [(0, 0), (0, 1), (0, 2), (0, 4), (0, 5), (0, 6), (0, 7), (1, 3), (1, 8), (2, 9), (0, 10)] (by kernel_rfl) (by kernel_rfl) (fun d _ _ _ _ h => by cases d <;> exact h) ?_
                    generalize wd.drew = we at p0 p1 HRD S0 T0 ⊢
                    repeat ((first | (refine mix3_free (v := ?_) rfl rfl ?_ (mix3_norm (a' := ?_) ?_ ?_); rotate_left; focus (intro w'; go_simp; first | done | (with_reducible rfl))) | (refine mix3_pure (v := ?_) rfl rfl ?_ (mix3_norm (a' := ?_) ?_ ?_); rotate_left; focus (intro w' hR; go_simp; first | done | (with_reducible rfl))) | refine mix3_freeOff rfl rfl (mix3_norm (a' := ?_) ?_ ?_) | refine mix3_off rfl rfl (mix3_norm (a' := ?_) ?_ ?_)); rotate_left; focus (simp only [Act.put, List.getElem_toArray, List.getElem_cons_zero, List.getElem_cons_succ, List.setIfInBounds_toArray, List.set_cons_zero, List.set_cons_succ]; rfl))
                    clear p0 p1
                    by_cases hxy : xd < yd
                    · have hlt : Sort.ltInt xd yd = true := decide_eq_true hxy
                      rw [hlt] at hl
                      have hsd := Hsd.out
                      rw [if_pos (decide_eq_true hxy)] at hsd
                      have HJ7 := Lib.hid (hsd.symm.trans HJ4.out)
                      clear hsd Hsd HJ4 hxy
                      refine mix3_eff rfl ?_
                      simp only [List.getElem_toArray, List.getElem_cons_zero, List.getElem_cons_succ]
                      go_wp2_with fail
                      refine (hl _).mono ?_
                      rintro r' w3 ⟨rfl, rfl⟩
                      go_wp2_with fail
                      refine mixQ3_normal (KeepsBut.refl _ _) rfl ?_
                      repeat ((first | (refine mix3_free (v := ?_) rfl rfl ?_ (mix3_norm (a' := ?_) ?_ ?_); rotate_left; focus (intro w'; go_simp; first | done | (with_reducible rfl))) | (refine mix3_pure (v := ?_) rfl rfl ?_ (mix3_norm (a' := ?_) ?_ ?_); rotate_left; focus (intro w' hR; go_simp; first | done | (with_reducible rfl))) | refine mix3_freeOff rfl rfl (mix3_norm (a' := ?_) ?_ ?_) | refine mix3_off rfl rfl (mix3_norm (a' := ?_) ?_ ?_)); rotate_left; focus (simp only [Act.put, List.getElem_toArray, List.getElem_cons_zero, List.getElem_cons_succ, List.setIfInBounds_toArray, List.set_cons_zero, List.set_cons_succ]; rfl))
                      refine mix3_done ?_
                      go_wp2_with fail
                      have s0 := S0.out
                      have t0 := T0.out
                      have p0 := fun w' (hk : KeepsBut [] we.drew w') => hk.cell (p := ⟨b, j, none⟩) s0 (by simp)
                      have p1 := fun w' (hk : KeepsBut [] we.drew w') => hk.cell (p := ⟨b, mj, none⟩) t0 (by simp)
                      have HA := HRD.out.1.drew
                      have HR9 := Lib.hid (show SrtOut W ((we.drew.setCell ⟨b, j, none⟩ (.int .u64 yd)).setCell ⟨b, mj, none⟩ (.int .u64 xd)) b c (Sort.swp d4 j mj) from ⟨Hsw.out _ HA, HRD.out.2.drew.trans (chg_swp we.drew b j mj (.int .u64 yd) (.int .u64 xd)) (fun _ _ h => h)⟩)
                      have f0 := HA.frozen j
                      have f1 := (HA.set j yd).frozen mj
                      have c0 : we.drew.cell? ⟨b, j, none⟩ = some (.int .u64 xd) := s0
                      obtain ⟨u1, c1⟩ : ∃ u1, (we.drew.setCell ⟨b, j, none⟩ (.int .u64 yd)).cell? ⟨b, mj, none⟩ = some u1 := ⟨_, (HA.set j yd).cell (by rw [Array.size_setIfInBounds]; exact los)⟩
                      clear s0 t0 HA
                      refine wp_region_mix3 (KeepsBut []) (KeepsBut.refl []) (KeepsBut.trans []) [15, 17] [(0, 0), (0, 1), (0, 2), (0, 3), (0, 4), (0, 5), (0, 6), (0, 7), (0, 8), (0, 10), (0, 11), (0, 12), (1, 9), (1, 13), (0, 14), (2, 15), (0, 16), (2, 17)] (by kernel_rfl) (by kernel_rfl) (fun d _ _ _ _ h => by cases d <;> exact h) ?_
                      generalize we.drew = wf at p0 p1 HR9 f0 f1 c0 c1 ⊢
                      repeat ((first | (refine mix3_free (v := ?_) rfl rfl ?_ (mix3_norm (a' := ?_) ?_ ?_); rotate_left; focus (intro w'; go_simp; first | done | (with_reducible rfl))) | (refine mix3_pure (v := ?_) rfl rfl ?_ (mix3_norm (a' := ?_) ?_ ?_); rotate_left; focus (intro w' hR; go_simp; first | done | (with_reducible rfl))) | refine mix3_freeOff rfl rfl (mix3_norm (a' := ?_) ?_ ?_) | refine mix3_off rfl rfl (mix3_norm (a' := ?_) ?_ ?_)); rotate_left; focus (simp only [Act.put, List.getElem_toArray, List.getElem_cons_zero, List.getElem_cons_succ, List.setIfInBounds_toArray, List.set_cons_zero, List.set_cons_succ]; rfl))
                      refine mix3_eff rfl ?_
                      simp only [List.getElem_toArray, List.getElem_cons_zero, List.getElem_cons_succ]
                      go_wp2_with fail
                      refine mixQ3_last (by simp) rfl ?_
                      repeat ((first | (refine mix3_free (v := ?_) rfl rfl ?_ (mix3_norm (a' := ?_) ?_ ?_); rotate_left; focus (intro w'; go_simp; first | done | (with_reducible rfl))) | (refine mix3_pure (v := ?_) rfl rfl ?_ (mix3_norm (a' := ?_) ?_ ?_); rotate_left; focus (intro w' hR; go_simp; first | done | (with_reducible rfl))) | refine mix3_freeOff rfl rfl (mix3_norm (a' := ?_) ?_ ?_) | refine mix3_off rfl rfl (mix3_norm (a' := ?_) ?_ ?_)); rotate_left; focus (simp only [Act.put, List.getElem_toArray, List.getElem_cons_zero, List.getElem_cons_succ, List.setIfInBounds_toArray, List.set_cons_zero, List.set_cons_succ]; rfl))
                      refine mix3_eff rfl ?_
                      simp only [List.getElem_toArray, List.getElem_cons_zero, List.getElem_cons_succ]
                      go_wp2_with fail
                      refine mixQ3_last (by simp) rfl ?_
                      refine mix3_done ?_
                      clear p0 p1 f0 f1 c0 c1
                      generalize (wf.setCell ⟨b, j, none⟩ (.int .u64 yd)).setCell ⟨b, mj, none⟩ (.int .u64 xd) = wf' at HR9 ⊢
                      have HZ9 := Lib.hid (show (Sort.swp d4 j mj).size = n by rw [Sort.size_swp]; exact Hs4.out)
                      generalize Sort.swp d4 j mj = d9 at HR9 HJ7 HZ9
                      go_wp2_with fail
                      case roundEnd =>
                        have := Hmj.out
                        exact ⟨⟨mj, d9, by omega, by first | rfl | (congr 1; omega), HZ9, HR9, HJ7⟩, by simp only [intOf]; omega⟩
                    · have hlt : Sort.ltInt xd yd = false := decide_eq_false hxy
                      rw [hlt] at hl
                      have hsd := Hsd.out
                      rw [if_neg (by rw [decide_eq_false hxy]; decide)] at hsd
                      have hxu := HXd.out
                      rw [← HJ4.out, hsd] at hxu
                      clear hsd Hsd HJ4 hxy HXd S0 T0 Hsw hwj hmjn hjn
                      refine mix3_eff rfl ?_
                      simp only [List.getElem_toArray, List.getElem_cons_zero, List.getElem_cons_succ]
                      go_wp2_with fail
                      refine (hl _).mono ?_
                      rintro r' w3 ⟨rfl, rfl⟩
                      go_wp2_with fail
                      refine mixQ3_normal (KeepsBut.refl _ _) rfl ?_
                      repeat ((first | (refine mix3_free (v := ?_) rfl rfl ?_ (mix3_norm (a' := ?_) ?_ ?_); rotate_left; focus (intro w'; go_simp; first | done | (with_reducible rfl))) | (refine mix3_pure (v := ?_) rfl rfl ?_ (mix3_norm (a' := ?_) ?_ ?_); rotate_left; focus (intro w' hR; go_simp; first | done | (with_reducible rfl))) | refine mix3_freeOff rfl rfl (mix3_norm (a' := ?_) ?_ ?_) | refine mix3_off rfl rfl (mix3_norm (a' := ?_) ?_ ?_)); rotate_left; focus (simp only [Act.put, List.getElem_toArray, List.getElem_cons_zero, List.getElem_cons_succ, List.setIfInBounds_toArray, List.set_cons_zero, List.set_cons_succ]; rfl))
                      refine mix3_done ?_
                      have HRu := HRD
                      have HZu := Hs4
                      clear HRD HR4 Hs4
                      obtain ⟨du, hdu⟩ : ∃ du, du = d4 := ⟨_, rfl⟩
                      subst hdu
                      by_cases hup : e - k ≥ 2
                      · have hupi : (2 : Int) ≤ (e : Int) - (k : Int) := by omega
                        rw [if_pos hup] at hxu
                        have HXu := Lib.hid hxu
                        clear hxu
                        go_wp2_with fail
                        try generalize decide ((e : Int) - (a : Int) < 50) = b41
                        try generalize ((k : Int) == (e : Int)) = b37
                        try generalize decide ((2 : Int) ≤ (k : Int) - (a : Int)) = b61
                        try generalize decide ((2 : Int) ≤ (e : Int) - (k : Int)) = b98
                        go_loopw [10] (fun v wi => ∃ (j : Nat) (d6 : Array Int), k + 1 ≤ j ∧ j ≤ e ∧ v = .int .i64 j ∧ Hid (d6.size = n) ∧ Hid (SrtOut W wi b c d6) ∧ Hid (Sort.shiftUp Sort.ltInt e j d6 = Sort.shiftUp Sort.ltInt e (k + 1) du)) (fun v _ => (e - intOf v).toNat)
                        case atStart => exact ⟨k + 1, du, Nat.le_refl _, by omega, by push_cast; rfl, HZu, HRu, Lib.hid rfl⟩
                        case round =>
                          clear HRu
                          obtain ⟨j, d6, hj1, hj2, rfl, Hs6, HR6, HJ6⟩ := hrel
                          obtain ⟨w7, hw7⟩ : ∃ w7 : World, w7 = wr := ⟨_, rfl⟩
                          subst hw7
                          have hj1000 : j ≤ 1000 := by omega
                          by_cases hje : j < e
                          · obtain ⟨m7, hm7⟩ : ∃ m7, j = m7 + 1 := ⟨j - 1, by omega⟩
                            have Hm7 := Lib.hid hm7
                            have hmn7 : (m7 : Int) < (n : Int) := by omega
                            have hjn7 : (j : Int) < (n : Int) := by omega
                            have hw7 : IntKind.i64.wrap ((j : Int) - 1) = (m7 : Int) := by rw [IntWalk.i64_in ((j : Int) - 1) ⟨by omega, by omega⟩]; omega
                            have his : j < d6.size := by have := Hs6.out; omega
                            have los : m7 < d6.size := by have := Hs6.out; omega
                            have s0 := HR6.out.1.cell his
                            have t0 := HR6.out.1.cell los
                            have Hsw := Lib.hid (fun W' (h : ARow W' b c d6) => h.swp j m7)
                            obtain ⟨x7, hx⟩ : ∃ x, d6[j]! = x := ⟨_, rfl⟩
                            obtain ⟨y7, hy⟩ : ∃ y, d6[m7]! = y := ⟨_, rfl⟩
                            rw [hx] at s0 Hsw
                            rw [hy] at t0 Hsw
                            have S0 := Lib.hid s0
                            have T0 := Lib.hid t0
                            have Hsu := Lib.hid (show Sort.shiftUp Sort.ltInt e j d6 = if decide (x7 < y7) then Sort.shiftUp Sort.ltInt e (j + 1) (Sort.swp d6 j m7) else d6 from by
                              rw [Sort.shiftUp, if_pos hje, show j - 1 = m7 by omega, hx, hy]
                              by_cases h : x7 < y7 <;> simp [Sort.ltInt, h])
                            have hl := less_any x7 y7
                            clear hm7 hx hy S0 T0
                            go_wp2_with fail
                            have p0 := fun w' (hk : KeepsBut [] w7.drew w') => hk.cell (p := ⟨b, j, none⟩) s0 (by simp)
                            have p1 := fun w' (hk : KeepsBut [] w7.drew w') => hk.cell (p := ⟨b, m7, none⟩) t0 (by simp)
                            have HR7 := Lib.hid (show SrtOut W w7.drew b c d6 from ⟨HR6.out.1.drew, HR6.out.2.drew⟩)
                            have S0 := Lib.hid (show w7.drew.cell? ⟨b, j, none⟩ = some (.int .u64 x7) from s0)
                            have T0 := Lib.hid (show w7.drew.cell? ⟨b, m7, none⟩ = some (.int .u64 y7) from t0)
                            clear s0 t0
                            refine wp_region_mix3 (KeepsBut []) (KeepsBut.refl []) (KeepsBut.trans []) [] [(0, 0), (0, 1), (0, 2), (0, 4), (0, 5), (0, 6), (0, 7), (1, 3), (1, 8), (2, 9), (0, 10)] (by kernel_rfl) (by kernel_rfl) (fun d _ _ _ _ h => by cases d <;> exact h) ?_
                            generalize w7.drew = w8 at p0 p1 HR7 S0 T0 ⊢
                            repeat ((first | (refine mix3_free (v := ?_) rfl rfl ?_ (mix3_norm (a' := ?_) ?_ ?_); rotate_left; focus (intro w'; go_simp; first | done | (with_reducible rfl))) | (refine mix3_pure (v := ?_) rfl rfl ?_ (mix3_norm (a' := ?_) ?_ ?_); rotate_left; focus (intro w' hR; go_simp; first | done | (with_reducible rfl))) | refine mix3_freeOff rfl rfl (mix3_norm (a' := ?_) ?_ ?_) | refine mix3_off rfl rfl (mix3_norm (a' := ?_) ?_ ?_)); rotate_left; focus (simp only [Act.put, List.getElem_toArray, List.getElem_cons_zero, List.getElem_cons_succ, List.setIfInBounds_toArray, List.set_cons_zero, List.set_cons_succ]; rfl))
                            clear p0 p1
                            by_cases hxy : x7 < y7
                            · have hlt : Sort.ltInt x7 y7 = true := decide_eq_true hxy
                              rw [hlt] at hl
                              have hsu := Hsu.out
                              rw [if_pos (decide_eq_true hxy)] at hsu
                              have HJ7 := Lib.hid (hsu.symm.trans HJ6.out)
                              clear hsu Hsu HJ6 hxy
                              refine mix3_eff rfl ?_
                              simp only [List.getElem_toArray, List.getElem_cons_zero, List.getElem_cons_succ]
                              go_wp2_with fail
                              refine (hl _).mono ?_
                              rintro r' w3 ⟨rfl, rfl⟩
                              go_wp2_with fail
                              refine mixQ3_normal (KeepsBut.refl _ _) rfl ?_
                              repeat ((first | (refine mix3_free (v := ?_) rfl rfl ?_ (mix3_norm (a' := ?_) ?_ ?_); rotate_left; focus (intro w'; go_simp; first | done | (with_reducible rfl))) | (refine mix3_pure (v := ?_) rfl rfl ?_ (mix3_norm (a' := ?_) ?_ ?_); rotate_left; focus (intro w' hR; go_simp; first | done | (with_reducible rfl))) | refine mix3_freeOff rfl rfl (mix3_norm (a' := ?_) ?_ ?_) | refine mix3_off rfl rfl (mix3_norm (a' := ?_) ?_ ?_)); rotate_left; focus (simp only [Act.put, List.getElem_toArray, List.getElem_cons_zero, List.getElem_cons_succ, List.setIfInBounds_toArray, List.set_cons_zero, List.set_cons_succ]; rfl))
                              refine mix3_done ?_
                              go_wp2_with fail
                              have s0 := S0.out
                              have t0 := T0.out
                              have p0 := fun w' (hk : KeepsBut [] w8.drew w') => hk.cell (p := ⟨b, j, none⟩) s0 (by simp)
                              have p1 := fun w' (hk : KeepsBut [] w8.drew w') => hk.cell (p := ⟨b, m7, none⟩) t0 (by simp)
                              have HA := HR7.out.1.drew
                              have HR9 := Lib.hid (show SrtOut W ((w8.drew.setCell ⟨b, j, none⟩ (.int .u64 y7)).setCell ⟨b, m7, none⟩ (.int .u64 x7)) b c (Sort.swp d6 j m7) from ⟨Hsw.out _ HA, HR7.out.2.drew.trans (chg_swp w8.drew b j m7 (.int .u64 y7) (.int .u64 x7)) (fun _ _ h => h)⟩)
                              have f0 := HA.frozen j
                              have f1 := (HA.set j y7).frozen m7
                              have c0 : w8.drew.cell? ⟨b, j, none⟩ = some (.int .u64 x7) := s0
                              obtain ⟨u1, c1⟩ : ∃ u1, (w8.drew.setCell ⟨b, j, none⟩ (.int .u64 y7)).cell? ⟨b, m7, none⟩ = some u1 := ⟨_, (HA.set j y7).cell (by rw [Array.size_setIfInBounds]; exact los)⟩
                              clear s0 t0 HA
                              refine wp_region_mix3 (KeepsBut []) (KeepsBut.refl []) (KeepsBut.trans []) [15, 17] [(0, 0), (0, 1), (0, 2), (0, 3), (0, 4), (0, 5), (0, 6), (0, 7), (0, 8), (0, 10), (0, 11), (0, 12), (1, 9), (1, 13), (0, 14), (2, 15), (0, 16), (2, 17)] (by kernel_rfl) (by kernel_rfl) (fun d _ _ _ _ h => by cases d <;> exact h) ?_
                              generalize w8.drew = w9 at p0 p1 HR9 f0 f1 c0 c1 ⊢
                              repeat ((first | (refine mix3_free (v := ?_) rfl rfl ?_ (mix3_norm (a' := ?_) ?_ ?_); rotate_left; focus (intro w'; go_simp; first | done | (with_reducible rfl))) | (refine mix3_pure (v := ?_) rfl rfl ?_ (mix3_norm (a' := ?_) ?_ ?_); rotate_left; focus (intro w' hR; go_simp; first | done | (with_reducible rfl))) | refine mix3_freeOff rfl rfl (mix3_norm (a' := ?_) ?_ ?_) | refine mix3_off rfl rfl (mix3_norm (a' := ?_) ?_ ?_)); rotate_left; focus (simp only [Act.put, List.getElem_toArray, List.getElem_cons_zero, List.getElem_cons_succ, List.setIfInBounds_toArray, List.set_cons_zero, List.set_cons_succ]; rfl))
                              refine mix3_eff rfl ?_
                              simp only [List.getElem_toArray, List.getElem_cons_zero, List.getElem_cons_succ]
                              go_wp2_with fail
                              refine mixQ3_last (by simp) rfl ?_
                              repeat ((first | (refine mix3_free (v := ?_) rfl rfl ?_ (mix3_norm (a' := ?_) ?_ ?_); rotate_left; focus (intro w'; go_simp; first | done | (with_reducible rfl))) | (refine mix3_pure (v := ?_) rfl rfl ?_ (mix3_norm (a' := ?_) ?_ ?_); rotate_left; focus (intro w' hR; go_simp; first | done | (with_reducible rfl))) | refine mix3_freeOff rfl rfl (mix3_norm (a' := ?_) ?_ ?_) | refine mix3_off rfl rfl (mix3_norm (a' := ?_) ?_ ?_)); rotate_left; focus (simp only [Act.put, List.getElem_toArray, List.getElem_cons_zero, List.getElem_cons_succ, List.setIfInBounds_toArray, List.set_cons_zero, List.set_cons_succ]; rfl))
                              refine mix3_eff rfl ?_
                              simp only [List.getElem_toArray, List.getElem_cons_zero, List.getElem_cons_succ]
                              go_wp2_with fail
                              refine mixQ3_last (by simp) rfl ?_
                              refine mix3_done ?_
                              clear p0 p1 f0 f1 c0 c1
                              generalize (w9.setCell ⟨b, j, none⟩ (.int .u64 y7)).setCell ⟨b, m7, none⟩ (.int .u64 x7) = w9' at HR9 ⊢
                              have HZ9 := Lib.hid (show (Sort.swp d6 j m7).size = n by rw [Sort.size_swp]; exact Hs6.out)
                              generalize Sort.swp d6 j m7 = d9 at HR9 HJ7 HZ9
                              go_wp2_with fail
                              case roundEnd =>
                                exact ⟨⟨j + 1, d9, by omega, by omega, by push_cast; rfl, HZ9, HR9, HJ7⟩, by simp only [intOf]; omega⟩
                            · have hlt : Sort.ltInt x7 y7 = false := decide_eq_false hxy
                              rw [hlt] at hl
                              have hsu := Hsu.out
                              rw [if_neg (by rw [decide_eq_false hxy]; decide)] at hsu
                              have hX := HXu.out
                              rw [← HJ6.out, hsu] at hX
                              have HX9 := Lib.hid hX
                              clear hsu Hsu HJ6 hxy hX HXu S0 T0 Hsw
                              refine mix3_eff rfl ?_
                              simp only [List.getElem_toArray, List.getElem_cons_zero, List.getElem_cons_succ]
                              go_wp2_with fail
                              refine (hl _).mono ?_
                              rintro r' w3 ⟨rfl, rfl⟩
                              go_wp2_with fail
                              refine mixQ3_normal (KeepsBut.refl _ _) rfl ?_
                              repeat ((first | (refine mix3_free (v := ?_) rfl rfl ?_ (mix3_norm (a' := ?_) ?_ ?_); rotate_left; focus (intro w'; go_simp; first | done | (with_reducible rfl))) | (refine mix3_pure (v := ?_) rfl rfl ?_ (mix3_norm (a' := ?_) ?_ ?_); rotate_left; focus (intro w' hR; go_simp; first | done | (with_reducible rfl))) | refine mix3_freeOff rfl rfl (mix3_norm (a' := ?_) ?_ ?_) | refine mix3_off rfl rfl (mix3_norm (a' := ?_) ?_ ?_)); rotate_left; focus (simp only [Act.put, List.getElem_toArray, List.getElem_cons_zero, List.getElem_cons_succ, List.setIfInBounds_toArray, List.set_cons_zero, List.set_cons_succ]; rfl))
                              refine mix3_done ?_
                              go_wp2_with fail
                              case roundEnd =>
                                exact ⟨⟨k, st, d6, by omega, by omega, by omega, rfl, by have := Hu.out; congr 1; push_cast at this; omega, Hs6, HR7, HX9⟩, by simp only [intOf]; have := Hu.out; push_cast at this; omega⟩
                          · have hX := HXu.out
                            rw [← HJ6.out, Sort.shiftUp, if_neg hje] at hX
                            have HX9 := Lib.hid hX
                            clear hX HXu HJ6
                            go_wp2_with fail
                            case roundEnd =>
                              exact ⟨⟨k, st, d6, by omega, by omega, by omega, rfl, by have := Hu.out; congr 1; push_cast at this; omega, Hs6, HR6, HX9⟩, by simp only [intOf]; have := Hu.out; push_cast at this; omega⟩
                      · have hupi : ¬ (2 : Int) ≤ (e : Int) - (k : Int) := by omega
                        rw [if_neg hup] at hxu
                        have HXu := Lib.hid hxu
                        clear hxu
                        go_wp2_with fail
                        case roundEnd =>
                          exact ⟨⟨k, st, du, by omega, by omega, by omega, rfl, by have := Hu.out; congr 1; push_cast at this; omega, HZu, HRu, HXu⟩, by simp only [intOf]; have := Hu.out; push_cast at this; omega⟩
                  · have hxu := HXd.out
                    rw [← HJ4.out, show j = 0 by omega, Sort.shiftDown] at hxu
                    have hj0i : ¬ (1 : Int) ≤ (j : Int) := by omega
                    have HRu := HR4
                    have HZu := Hs4
                    clear HJ4 HXd HR4 Hs4
                    obtain ⟨du, hdu⟩ : ∃ du, du = d4 := ⟨_, rfl⟩
                    subst hdu
                    by_cases hup : e - k ≥ 2
                    · have hupi : (2 : Int) ≤ (e : Int) - (k : Int) := by omega
                      rw [if_pos hup] at hxu
                      have HXu := Lib.hid hxu
                      clear hxu
                      go_wp2_with fail
                      try generalize decide ((e : Int) - (a : Int) < 50) = b41
                      try generalize ((k : Int) == (e : Int)) = b37
                      try generalize decide ((2 : Int) ≤ (k : Int) - (a : Int)) = b61
                      try generalize decide ((2 : Int) ≤ (e : Int) - (k : Int)) = b98
                      go_loopw [10] (fun v wi => ∃ (j : Nat) (d6 : Array Int), k + 1 ≤ j ∧ j ≤ e ∧ v = .int .i64 j ∧ Hid (d6.size = n) ∧ Hid (SrtOut W wi b c d6) ∧ Hid (Sort.shiftUp Sort.ltInt e j d6 = Sort.shiftUp Sort.ltInt e (k + 1) du)) (fun v _ => (e - intOf v).toNat)
                      case atStart => exact ⟨k + 1, du, Nat.le_refl _, by omega, by push_cast; rfl, HZu, HRu, Lib.hid rfl⟩
                      case round =>
                        clear HRu
                        obtain ⟨j, d6, hj1, hj2, rfl, Hs6, HR6, HJ6⟩ := hrel
                        obtain ⟨w7, hw7⟩ : ∃ w7 : World, w7 = wr := ⟨_, rfl⟩
                        subst hw7
                        have hj1000 : j ≤ 1000 := by omega
                        by_cases hje : j < e
                        · obtain ⟨m7, hm7⟩ : ∃ m7, j = m7 + 1 := ⟨j - 1, by omega⟩
                          have Hm7 := Lib.hid hm7
                          have hmn7 : (m7 : Int) < (n : Int) := by omega
                          have hjn7 : (j : Int) < (n : Int) := by omega
                          have hw7 : IntKind.i64.wrap ((j : Int) - 1) = (m7 : Int) := by rw [IntWalk.i64_in ((j : Int) - 1) ⟨by omega, by omega⟩]; omega
                          have his : j < d6.size := by have := Hs6.out; omega
                          have los : m7 < d6.size := by have := Hs6.out; omega
                          have s0 := HR6.out.1.cell his
                          have t0 := HR6.out.1.cell los
                          have Hsw := Lib.hid (fun W' (h : ARow W' b c d6) => h.swp j m7)
                          obtain ⟨x7, hx⟩ : ∃ x, d6[j]! = x := ⟨_, rfl⟩
                          obtain ⟨y7, hy⟩ : ∃ y, d6[m7]! = y := ⟨_, rfl⟩
                          rw [hx] at s0 Hsw
                          rw [hy] at t0 Hsw
                          have S0 := Lib.hid s0
                          have T0 := Lib.hid t0
                          have Hsu := Lib.hid (show Sort.shiftUp Sort.ltInt e j d6 = if decide (x7 < y7) then Sort.shiftUp Sort.ltInt e (j + 1) (Sort.swp d6 j m7) else d6 from by
                            rw [Sort.shiftUp, if_pos hje, show j - 1 = m7 by omega, hx, hy]
                            by_cases h : x7 < y7 <;> simp [Sort.ltInt, h])
                          have hl := less_any x7 y7
                          clear hm7 hx hy S0 T0
                          go_wp2_with fail
                          have p0 := fun w' (hk : KeepsBut [] w7.drew w') => hk.cell (p := ⟨b, j, none⟩) s0 (by simp)
                          have p1 := fun w' (hk : KeepsBut [] w7.drew w') => hk.cell (p := ⟨b, m7, none⟩) t0 (by simp)
                          have HR7 := Lib.hid (show SrtOut W w7.drew b c d6 from ⟨HR6.out.1.drew, HR6.out.2.drew⟩)
                          have S0 := Lib.hid (show w7.drew.cell? ⟨b, j, none⟩ = some (.int .u64 x7) from s0)
                          have T0 := Lib.hid (show w7.drew.cell? ⟨b, m7, none⟩ = some (.int .u64 y7) from t0)
                          clear s0 t0
                          refine wp_region_mix3 (KeepsBut []) (KeepsBut.refl []) (KeepsBut.trans []) [] [(0, 0), (0, 1), (0, 2), (0, 4), (0, 5), (0, 6), (0, 7), (1, 3), (1, 8), (2, 9), (0, 10)] (by kernel_rfl) (by kernel_rfl) (fun d _ _ _ _ h => by cases d <;> exact h) ?_
                          generalize w7.drew = w8 at p0 p1 HR7 S0 T0 ⊢
                          repeat ((first | (refine mix3_free (v := ?_) rfl rfl ?_ (mix3_norm (a' := ?_) ?_ ?_); rotate_left; focus (intro w'; go_simp; first | done | (with_reducible rfl))) | (refine mix3_pure (v := ?_) rfl rfl ?_ (mix3_norm (a' := ?_) ?_ ?_); rotate_left; focus (intro w' hR; go_simp; first | done | (with_reducible rfl))) | refine mix3_freeOff rfl rfl (mix3_norm (a' := ?_) ?_ ?_) | refine mix3_off rfl rfl (mix3_norm (a' := ?_) ?_ ?_)); rotate_left; focus (simp only [Act.put, List.getElem_toArray, List.getElem_cons_zero, List.getElem_cons_succ, List.setIfInBounds_toArray, List.set_cons_zero, List.set_cons_succ]; rfl))
                          clear p0 p1
                          by_cases hxy : x7 < y7
                          · have hlt : Sort.ltInt x7 y7 = true := decide_eq_true hxy
                            rw [hlt] at hl
                            have hsu := Hsu.out
                            rw [if_pos (decide_eq_true hxy)] at hsu
                            have HJ7 := Lib.hid (hsu.symm.trans HJ6.out)
                            clear hsu Hsu HJ6 hxy
                            refine mix3_eff rfl ?_
                            simp only [List.getElem_toArray, List.getElem_cons_zero, List.getElem_cons_succ]
                            go_wp2_with fail
                            refine (hl _).mono ?_
                            rintro r' w3 ⟨rfl, rfl⟩
                            go_wp2_with fail
                            refine mixQ3_normal (KeepsBut.refl _ _) rfl ?_
                            repeat ((first | (refine mix3_free (v := ?_) rfl rfl ?_ (mix3_norm (a' := ?_) ?_ ?_); rotate_left; focus (intro w'; go_simp; first | done | (with_reducible rfl))) | (refine mix3_pure (v := ?_) rfl rfl ?_ (mix3_norm (a' := ?_) ?_ ?_); rotate_left; focus (intro w' hR; go_simp; first | done | (with_reducible rfl))) | refine mix3_freeOff rfl rfl (mix3_norm (a' := ?_) ?_ ?_) | refine mix3_off rfl rfl (mix3_norm (a' := ?_) ?_ ?_)); rotate_left; focus (simp only [Act.put, List.getElem_toArray, List.getElem_cons_zero, List.getElem_cons_succ, List.setIfInBounds_toArray, List.set_cons_zero, List.set_cons_succ]; rfl))
                            refine mix3_done ?_
                            go_wp2_with fail
                            have s0 := S0.out
                            have t0 := T0.out
                            have p0 := fun w' (hk : KeepsBut [] w8.drew w') => hk.cell (p := ⟨b, j, none⟩) s0 (by simp)
                            have p1 := fun w' (hk : KeepsBut [] w8.drew w') => hk.cell (p := ⟨b, m7, none⟩) t0 (by simp)
                            have HA := HR7.out.1.drew
                            have HR9 := Lib.hid (show SrtOut W ((w8.drew.setCell ⟨b, j, none⟩ (.int .u64 y7)).setCell ⟨b, m7, none⟩ (.int .u64 x7)) b c (Sort.swp d6 j m7) from ⟨Hsw.out _ HA, HR7.out.2.drew.trans (chg_swp w8.drew b j m7 (.int .u64 y7) (.int .u64 x7)) (fun _ _ h => h)⟩)
                            have f0 := HA.frozen j
                            have f1 := (HA.set j y7).frozen m7
                            have c0 : w8.drew.cell? ⟨b, j, none⟩ = some (.int .u64 x7) := s0
                            obtain ⟨u1, c1⟩ : ∃ u1, (w8.drew.setCell ⟨b, j, none⟩ (.int .u64 y7)).cell? ⟨b, m7, none⟩ = some u1 := ⟨_, (HA.set j y7).cell (by rw [Array.size_setIfInBounds]; exact los)⟩
                            clear s0 t0 HA
                            refine wp_region_mix3 (KeepsBut []) (KeepsBut.refl []) (KeepsBut.trans []) [15, 17] [(0, 0), (0, 1), (0, 2), (0, 3), (0, 4), (0, 5), (0, 6), (0, 7), (0, 8), (0, 10), (0, 11), (0, 12), (1, 9), (1, 13), (0, 14), (2, 15), (0, 16), (2, 17)] (by kernel_rfl) (by kernel_rfl) (fun d _ _ _ _ h => by cases d <;> exact h) ?_
                            generalize w8.drew = w9 at p0 p1 HR9 f0 f1 c0 c1 ⊢
                            repeat ((first | (refine mix3_free (v := ?_) rfl rfl ?_ (mix3_norm (a' := ?_) ?_ ?_); rotate_left; focus (intro w'; go_simp; first | done | (with_reducible rfl))) | (refine mix3_pure (v := ?_) rfl rfl ?_ (mix3_norm (a' := ?_) ?_ ?_); rotate_left; focus (intro w' hR; go_simp; first | done | (with_reducible rfl))) | refine mix3_freeOff rfl rfl (mix3_norm (a' := ?_) ?_ ?_) | refine mix3_off rfl rfl (mix3_norm (a' := ?_) ?_ ?_)); rotate_left; focus (simp only [Act.put, List.getElem_toArray, List.getElem_cons_zero, List.getElem_cons_succ, List.setIfInBounds_toArray, List.set_cons_zero, List.set_cons_succ]; rfl))
                            refine mix3_eff rfl ?_
                            simp only [List.getElem_toArray, List.getElem_cons_zero, List.getElem_cons_succ]
                            go_wp2_with fail
                            refine mixQ3_last (by simp) rfl ?_
                            repeat ((first | (refine mix3_free (v := ?_) rfl rfl ?_ (mix3_norm (a' := ?_) ?_ ?_); rotate_left; focus (intro w'; go_simp; first | done | (with_reducible rfl))) | (refine mix3_pure (v := ?_) rfl rfl ?_ (mix3_norm (a' := ?_) ?_ ?_); rotate_left; focus (intro w' hR; go_simp; first | done | (with_reducible rfl))) | refine mix3_freeOff rfl rfl (mix3_norm (a' := ?_) ?_ ?_) | refine mix3_off rfl rfl (mix3_norm (a' := ?_) ?_ ?_)); rotate_left; focus (simp only [Act.put, List.getElem_toArray, List.getElem_cons_zero, List.getElem_cons_succ, List.setIfInBounds_toArray, List.set_cons_zero, List.set_cons_succ]; rfl))
                            refine mix3_eff rfl ?_
                            simp only [List.getElem_toArray, List.getElem_cons_zero, List.getElem_cons_succ]
                            go_wp2_with fail
                            refine mixQ3_last (by simp) rfl ?_
                            refine mix3_done ?_
                            clear p0 p1 f0 f1 c0 c1
                            generalize (w9.setCell ⟨b, j, none⟩ (.int .u64 y7)).setCell ⟨b, m7, none⟩ (.int .u64 x7) = w9' at HR9 ⊢
                            have HZ9 := Lib.hid (show (Sort.swp d6 j m7).size = n by rw [Sort.size_swp]; exact Hs6.out)
                            generalize Sort.swp d6 j m7 = d9 at HR9 HJ7 HZ9
                            go_wp2_with fail
                            case roundEnd =>
                              exact ⟨⟨j + 1, d9, by omega, by omega, by push_cast; rfl, HZ9, HR9, HJ7⟩, by simp only [intOf]; omega⟩
                          · have hlt : Sort.ltInt x7 y7 = false := decide_eq_false hxy
                            rw [hlt] at hl
                            have hsu := Hsu.out
                            rw [if_neg (by rw [decide_eq_false hxy]; decide)] at hsu
                            have hX := HXu.out
                            rw [← HJ6.out, hsu] at hX
                            have HX9 := Lib.hid hX
                            clear hsu Hsu HJ6 hxy hX HXu S0 T0 Hsw
                            refine mix3_eff rfl ?_
                            simp only [List.getElem_toArray, List.getElem_cons_zero, List.getElem_cons_succ]
                            go_wp2_with fail
                            refine (hl _).mono ?_
                            rintro r' w3 ⟨rfl, rfl⟩
                            go_wp2_with fail
                            refine mixQ3_normal (KeepsBut.refl _ _) rfl ?_
                            repeat ((first | (refine mix3_free (v := ?_) rfl rfl ?_ (mix3_norm (a' := ?_) ?_ ?_); rotate_left; focus (intro w'; go_simp; first | done | (with_reducible rfl))) | (refine mix3_pure (v := ?_) rfl rfl ?_ (mix3_norm (a' := ?_) ?_ ?_); rotate_left; focus (intro w' hR; go_simp; first | done | (with_reducible rfl))) | refine mix3_freeOff rfl rfl (mix3_norm (a' := ?_) ?_ ?_) | refine mix3_off rfl rfl (mix3_norm (a' := ?_) ?_ ?_)); rotate_left; focus (simp only [Act.put, List.getElem_toArray, List.getElem_cons_zero, List.getElem_cons_succ, List.setIfInBounds_toArray, List.set_cons_zero, List.set_cons_succ]; rfl))
                            refine mix3_done ?_
                            go_wp2_with fail
                            case roundEnd =>
                              exact ⟨⟨k, st, d6, by omega, by omega, by omega, rfl, by have := Hu.out; congr 1; push_cast at this; omega, Hs6, HR7, HX9⟩, by simp only [intOf]; have := Hu.out; push_cast at this; omega⟩
                        · have hX := HXu.out
                          rw [← HJ6.out, Sort.shiftUp, if_neg hje] at hX
                          have HX9 := Lib.hid hX
                          clear hX HXu HJ6
                          go_wp2_with fail
                          case roundEnd =>
                            exact ⟨⟨k, st, d6, by omega, by omega, by omega, rfl, by have := Hu.out; congr 1; push_cast at this; omega, Hs6, HR6, HX9⟩, by simp only [intOf]; have := Hu.out; push_cast at this; omega⟩
                    · have hupi : ¬ (2 : Int) ≤ (e : Int) - (k : Int) := by omega
                      rw [if_neg hup] at hxu
                      have HXu := Lib.hid hxu
                      clear hxu
                      go_wp2_with fail
                      case roundEnd =>
                        exact ⟨⟨k, st, du, by omega, by omega, by omega, rfl, by have := Hu.out; congr 1; push_cast at this; omega, HZu, HRu, HXu⟩, by simp only [intOf]; have := Hu.out; push_cast at this; omega⟩
              · have hdni : ¬ (2 : Int) ≤ (k : Int) - (a : Int) := by omega
                have hxu := HX.out
                rw [if_neg hdn] at hxu
                have HRu := HRs
                have HZu := HZ3
                clear HRs HZ3 HX
                obtain ⟨du, hdu⟩ : ∃ du, du = d3 := ⟨_, rfl⟩
                subst hdu
                by_cases hup : e - k ≥ 2
                · have hupi : (2 : Int) ≤ (e : Int) - (k : Int) := by omega
                  rw [if_pos hup] at hxu
                  have HXu := Lib.hid hxu
                  clear hxu
                  go_wp2_with fail
                  try generalize decide ((e : Int) - (a : Int) < 50) = b41
                  try generalize ((k : Int) == (e : Int)) = b37
                  try generalize decide ((2 : Int) ≤ (k : Int) - (a : Int)) = b61
                  try generalize decide ((2 : Int) ≤ (e : Int) - (k : Int)) = b98
                  go_loopw [10] (fun v wi => ∃ (j : Nat) (d6 : Array Int), k + 1 ≤ j ∧ j ≤ e ∧ v = .int .i64 j ∧ Hid (d6.size = n) ∧ Hid (SrtOut W wi b c d6) ∧ Hid (Sort.shiftUp Sort.ltInt e j d6 = Sort.shiftUp Sort.ltInt e (k + 1) du)) (fun v _ => (e - intOf v).toNat)
                  case atStart => exact ⟨k + 1, du, Nat.le_refl _, by omega, by push_cast; rfl, HZu, HRu, Lib.hid rfl⟩
                  case round =>
                    clear HRu
                    obtain ⟨j, d6, hj1, hj2, rfl, Hs6, HR6, HJ6⟩ := hrel
                    obtain ⟨w7, hw7⟩ : ∃ w7 : World, w7 = wr := ⟨_, rfl⟩
                    subst hw7
                    have hj1000 : j ≤ 1000 := by omega
                    by_cases hje : j < e
                    · obtain ⟨m7, hm7⟩ : ∃ m7, j = m7 + 1 := ⟨j - 1, by omega⟩
                      have Hm7 := Lib.hid hm7
                      have hmn7 : (m7 : Int) < (n : Int) := by omega
                      have hjn7 : (j : Int) < (n : Int) := by omega
                      have hw7 : IntKind.i64.wrap ((j : Int) - 1) = (m7 : Int) := by rw [IntWalk.i64_in ((j : Int) - 1) ⟨by omega, by omega⟩]; omega
                      have his : j < d6.size := by have := Hs6.out; omega
                      have los : m7 < d6.size := by have := Hs6.out; omega
                      have s0 := HR6.out.1.cell his
                      have t0 := HR6.out.1.cell los
                      have Hsw := Lib.hid (fun W' (h : ARow W' b c d6) => h.swp j m7)
                      obtain ⟨x7, hx⟩ : ∃ x, d6[j]! = x := ⟨_, rfl⟩
                      obtain ⟨y7, hy⟩ : ∃ y, d6[m7]! = y := ⟨_, rfl⟩
                      rw [hx] at s0 Hsw
                      rw [hy] at t0 Hsw
                      have S0 := Lib.hid s0
                      have T0 := Lib.hid t0
                      have Hsu := Lib.hid (show Sort.shiftUp Sort.ltInt e j d6 = if decide (x7 < y7) then Sort.shiftUp Sort.ltInt e (j + 1) (Sort.swp d6 j m7) else d6 from by
                        rw [Sort.shiftUp, if_pos hje, show j - 1 = m7 by omega, hx, hy]
                        by_cases h : x7 < y7 <;> simp [Sort.ltInt, h])
                      have hl := less_any x7 y7
                      clear hm7 hx hy S0 T0
                      go_wp2_with fail
                      have p0 := fun w' (hk : KeepsBut [] w7.drew w') => hk.cell (p := ⟨b, j, none⟩) s0 (by simp)
                      have p1 := fun w' (hk : KeepsBut [] w7.drew w') => hk.cell (p := ⟨b, m7, none⟩) t0 (by simp)
                      have HR7 := Lib.hid (show SrtOut W w7.drew b c d6 from ⟨HR6.out.1.drew, HR6.out.2.drew⟩)
                      have S0 := Lib.hid (show w7.drew.cell? ⟨b, j, none⟩ = some (.int .u64 x7) from s0)
                      have T0 := Lib.hid (show w7.drew.cell? ⟨b, m7, none⟩ = some (.int .u64 y7) from t0)
                      clear s0 t0
                      refine wp_region_mix3 (KeepsBut []) (KeepsBut.refl []) (KeepsBut.trans []) [] [(0, 0), (0, 1), (0, 2), (0, 4), (0, 5), (0, 6), (0, 7), (1, 3), (1, 8), (2, 9), (0, 10)] (by kernel_rfl) (by kernel_rfl) (fun d _ _ _ _ h => by cases d <;> exact h) ?_
                      generalize w7.drew = w8 at p0 p1 HR7 S0 T0 ⊢
                      repeat ((first | (refine mix3_free (v := ?_) rfl rfl ?_ (mix3_norm (a' := ?_) ?_ ?_); rotate_left; focus (intro w'; go_simp; first | done | (with_reducible rfl))) | (refine mix3_pure (v := ?_) rfl rfl ?_ (mix3_norm (a' := ?_) ?_ ?_); rotate_left; focus (intro w' hR; go_simp; first | done | (with_reducible rfl))) | refine mix3_freeOff rfl rfl (mix3_norm (a' := ?_) ?_ ?_) | refine mix3_off rfl rfl (mix3_norm (a' := ?_) ?_ ?_)); rotate_left; focus (simp only [Act.put, List.getElem_toArray, List.getElem_cons_zero, List.getElem_cons_succ, List.setIfInBounds_toArray, List.set_cons_zero, List.set_cons_succ]; rfl))
                      clear p0 p1
                      by_cases hxy : x7 < y7
                      · have hlt : Sort.ltInt x7 y7 = true := decide_eq_true hxy
                        rw [hlt] at hl
                        have hsu := Hsu.out
                        rw [if_pos (decide_eq_true hxy)] at hsu
                        have HJ7 := Lib.hid (hsu.symm.trans HJ6.out)
                        clear hsu Hsu HJ6 hxy
                        refine mix3_eff rfl ?_
                        simp only [List.getElem_toArray, List.getElem_cons_zero, List.getElem_cons_succ]
                        go_wp2_with fail
                        refine (hl _).mono ?_
                        rintro r' w3 ⟨rfl, rfl⟩
                        go_wp2_with fail
                        refine mixQ3_normal (KeepsBut.refl _ _) rfl ?_
                        repeat ((first | (refine mix3_free (v := ?_) rfl rfl ?_ (mix3_norm (a' := ?_) ?_ ?_); rotate_left; focus (intro w'; go_simp; first | done | (with_reducible rfl))) | (refine mix3_pure (v := ?_) rfl rfl ?_ (mix3_norm (a' := ?_) ?_ ?_); rotate_left; focus (intro w' hR; go_simp; first | done | (with_reducible rfl))) | refine mix3_freeOff rfl rfl (mix3_norm (a' := ?_) ?_ ?_) | refine mix3_off rfl rfl (mix3_norm (a' := ?_) ?_ ?_)); rotate_left; focus (simp only [Act.put, List.getElem_toArray, List.getElem_cons_zero, List.getElem_cons_succ, List.setIfInBounds_toArray, List.set_cons_zero, List.set_cons_succ]; rfl))
                        refine mix3_done ?_
                        go_wp2_with fail
                        have s0 := S0.out
                        have t0 := T0.out
                        have p0 := fun w' (hk : KeepsBut [] w8.drew w') => hk.cell (p := ⟨b, j, none⟩) s0 (by simp)
                        have p1 := fun w' (hk : KeepsBut [] w8.drew w') => hk.cell (p := ⟨b, m7, none⟩) t0 (by simp)
                        have HA := HR7.out.1.drew
                        have HR9 := Lib.hid (show SrtOut W ((w8.drew.setCell ⟨b, j, none⟩ (.int .u64 y7)).setCell ⟨b, m7, none⟩ (.int .u64 x7)) b c (Sort.swp d6 j m7) from ⟨Hsw.out _ HA, HR7.out.2.drew.trans (chg_swp w8.drew b j m7 (.int .u64 y7) (.int .u64 x7)) (fun _ _ h => h)⟩)
                        have f0 := HA.frozen j
                        have f1 := (HA.set j y7).frozen m7
                        have c0 : w8.drew.cell? ⟨b, j, none⟩ = some (.int .u64 x7) := s0
                        obtain ⟨u1, c1⟩ : ∃ u1, (w8.drew.setCell ⟨b, j, none⟩ (.int .u64 y7)).cell? ⟨b, m7, none⟩ = some u1 := ⟨_, (HA.set j y7).cell (by rw [Array.size_setIfInBounds]; exact los)⟩
                        clear s0 t0 HA
                        refine wp_region_mix3 (KeepsBut []) (KeepsBut.refl []) (KeepsBut.trans []) [15, 17] [(0, 0), (0, 1), (0, 2), (0, 3), (0, 4), (0, 5), (0, 6), (0, 7), (0, 8), (0, 10), (0, 11), (0, 12), (1, 9), (1, 13), (0, 14), (2, 15), (0, 16), (2, 17)] (by kernel_rfl) (by kernel_rfl) (fun d _ _ _ _ h => by cases d <;> exact h) ?_
                        generalize w8.drew = w9 at p0 p1 HR9 f0 f1 c0 c1 ⊢
                        repeat ((first | (refine mix3_free (v := ?_) rfl rfl ?_ (mix3_norm (a' := ?_) ?_ ?_); rotate_left; focus (intro w'; go_simp; first | done | (with_reducible rfl))) | (refine mix3_pure (v := ?_) rfl rfl ?_ (mix3_norm (a' := ?_) ?_ ?_); rotate_left; focus (intro w' hR; go_simp; first | done | (with_reducible rfl))) | refine mix3_freeOff rfl rfl (mix3_norm (a' := ?_) ?_ ?_) | refine mix3_off rfl rfl (mix3_norm (a' := ?_) ?_ ?_)); rotate_left; focus (simp only [Act.put, List.getElem_toArray, List.getElem_cons_zero, List.getElem_cons_succ, List.setIfInBounds_toArray, List.set_cons_zero, List.set_cons_succ]; rfl))
                        refine mix3_eff rfl ?_
                        simp only [List.getElem_toArray, List.getElem_cons_zero, List.getElem_cons_succ]
                        go_wp2_with fail
                        refine mixQ3_last (by simp) rfl ?_
                        repeat ((first | (refine mix3_free (v := ?_) rfl rfl ?_ (mix3_norm (a' := ?_) ?_ ?_); rotate_left; focus (intro w'; go_simp; first | done | (with_reducible rfl))) | (refine mix3_pure (v := ?_) rfl rfl ?_ (mix3_norm (a' := ?_) ?_ ?_); rotate_left; focus (intro w' hR; go_simp; first | done | (with_reducible rfl))) | refine mix3_freeOff rfl rfl (mix3_norm (a' := ?_) ?_ ?_) | refine mix3_off rfl rfl (mix3_norm (a' := ?_) ?_ ?_)); rotate_left; focus (simp only [Act.put, List.getElem_toArray, List.getElem_cons_zero, List.getElem_cons_succ, List.setIfInBounds_toArray, List.set_cons_zero, List.set_cons_succ]; rfl))
                        refine mix3_eff rfl ?_
                        simp only [List.getElem_toArray, List.getElem_cons_zero, List.getElem_cons_succ]
                        go_wp2_with fail
                        refine mixQ3_last (by simp) rfl ?_
                        refine mix3_done ?_
                        clear p0 p1 f0 f1 c0 c1
                        generalize (w9.setCell ⟨b, j, none⟩ (.int .u64 y7)).setCell ⟨b, m7, none⟩ (.int .u64 x7) = w9' at HR9 ⊢
                        have HZ9 := Lib.hid (show (Sort.swp d6 j m7).size = n by rw [Sort.size_swp]; exact Hs6.out)
                        generalize Sort.swp d6 j m7 = d9 at HR9 HJ7 HZ9
                        go_wp2_with fail
                        case roundEnd =>
                          exact ⟨⟨j + 1, d9, by omega, by omega, by push_cast; rfl, HZ9, HR9, HJ7⟩, by simp only [intOf]; omega⟩
                      · have hlt : Sort.ltInt x7 y7 = false := decide_eq_false hxy
                        rw [hlt] at hl
                        have hsu := Hsu.out
                        rw [if_neg (by rw [decide_eq_false hxy]; decide)] at hsu
                        have hX := HXu.out
                        rw [← HJ6.out, hsu] at hX
                        have HX9 := Lib.hid hX
                        clear hsu Hsu HJ6 hxy hX HXu S0 T0 Hsw
                        refine mix3_eff rfl ?_
                        simp only [List.getElem_toArray, List.getElem_cons_zero, List.getElem_cons_succ]
                        go_wp2_with fail
                        refine (hl _).mono ?_
                        rintro r' w3 ⟨rfl, rfl⟩
                        go_wp2_with fail
                        refine mixQ3_normal (KeepsBut.refl _ _) rfl ?_
                        repeat ((first | (refine mix3_free (v := ?_) rfl rfl ?_ (mix3_norm (a' := ?_) ?_ ?_); rotate_left; focus (intro w'; go_simp; first | done | (with_reducible rfl))) | (refine mix3_pure (v := ?_) rfl rfl ?_ (mix3_norm (a' := ?_) ?_ ?_); rotate_left; focus (intro w' hR; go_simp; first | done | (with_reducible rfl))) | refine mix3_freeOff rfl rfl (mix3_norm (a' := ?_) ?_ ?_) | refine mix3_off rfl rfl (mix3_norm (a' := ?_) ?_ ?_)); rotate_left; focus (simp only [Act.put, List.getElem_toArray, List.getElem_cons_zero, List.getElem_cons_succ, List.setIfInBounds_toArray, List.set_cons_zero, List.set_cons_succ]; rfl))
                        refine mix3_done ?_
                        go_wp2_with fail
                        case roundEnd =>
                          exact ⟨⟨k, st, d6, by omega, by omega, by omega, rfl, by have := Hu.out; congr 1; push_cast at this; omega, Hs6, HR7, HX9⟩, by simp only [intOf]; have := Hu.out; push_cast at this; omega⟩
                    · have hX := HXu.out
                      rw [← HJ6.out, Sort.shiftUp, if_neg hje] at hX
                      have HX9 := Lib.hid hX
                      clear hX HXu HJ6
                      go_wp2_with fail
                      case roundEnd =>
                        exact ⟨⟨k, st, d6, by omega, by omega, by omega, rfl, by have := Hu.out; congr 1; push_cast at this; omega, Hs6, HR6, HX9⟩, by simp only [intOf]; have := Hu.out; push_cast at this; omega⟩
                · have hupi : ¬ (2 : Int) ≤ (e : Int) - (k : Int) := by omega
                  rw [if_neg hup] at hxu
                  have HXu := Lib.hid hxu
                  clear hxu
                  go_wp2_with fail
                  case roundEnd =>
                    exact ⟨⟨k, st, du, by omega, by omega, by omega, rfl, by have := Hu.out; congr 1; push_cast at this; omega, HZu, HRu, HXu⟩, by simp only [intOf]; have := Hu.out; push_cast at this; omega⟩
          · have hlt : Sort.ltInt x y = false := decide_eq_false hxy
            rw [hlt] at hl
            have hsc := Hsc.out
            rw [if_neg (by rw [decide_eq_false hxy]; decide)] at hsc
            have HK := Lib.hid (hsc.symm.trans HJ.out)
            clear hsc Hsc HJ hxy S0 T0 Hsw
            refine mix3_eff rfl ?_
            simp only [List.getElem_toArray, List.getElem_cons_zero, List.getElem_cons_succ]
            go_wp2_with fail
            refine (hl _).mono ?_
            rintro r' w3 ⟨rfl, rfl⟩
            go_wp2_with fail
            refine mixQ3_normal (KeepsBut.refl _ _) rfl ?_
            repeat ((first | (refine mix3_free (v := ?_) rfl rfl ?_ (mix3_norm (a' := ?_) ?_ ?_); rotate_left; focus (intro w'; go_simp; first | done | (with_reducible rfl))) | (refine mix3_pure (v := ?_) rfl rfl ?_ (mix3_norm (a' := ?_) ?_ ?_); rotate_left; focus (intro w' hR; go_simp; first | done | (with_reducible rfl))) | refine mix3_freeOff rfl rfl (mix3_norm (a' := ?_) ?_ ?_) | refine mix3_off rfl rfl (mix3_norm (a' := ?_) ?_ ?_)); rotate_left; focus (simp only [Act.put, List.getElem_toArray, List.getElem_cons_zero, List.getElem_cons_succ, List.setIfInBounds_toArray, List.set_cons_zero, List.set_cons_succ]; rfl))
            refine mix3_done ?_
            go_wp2_with fail
            case roundEnd =>
              exact ⟨⟨k + 1, by omega, by omega, by push_cast; rfl, HR2, HK⟩, by simp only [intOf]; omega⟩
        · have hkee : k = e := by omega
          have Hge := Lib.hid (show decide (k < e) = false from decide_eq_false hke)
          have HK := Lib.hid (show Sort.scanSorted Sort.ltInt d1 e i = k from by
            rw [← HJ.out, Sort.scanSorted]
            simp [hke])
          have HE1 := HE.out
          rw [Sort.partialIns] at HE1
          simp only [HK.out, if_pos hkee] at HE1
          have HX := Lib.hid HE1
          have HR2 := Lib.hid (show SrtOut W wi.drew b c d1 from ⟨HR.out.1.drew, HR.out.2.drew⟩)
          have hbe : ((k : Int) == (e : Int)) = true := by rw [beq_iff_eq]; omega
          clear HE1 HJ hke hkee HR HK
          go_wp2_with fail
          refine wp_region_mix3 (KeepsBut []) (KeepsBut.refl []) (KeepsBut.trans []) [] [(0, 0), (0, 1), (0, 2), (0, 3), (0, 4), (0, 5), (0, 6), (0, 8), (0, 9), (0, 10), (0, 11), (1, 7), (1, 12), (2, 13), (0, 14), (0, 15)] (by kernel_rfl) (by kernel_rfl) (fun d _ _ _ _ h => by cases d <;> exact h) ?_
          generalize wi.drew = w2 at HR2 ⊢
          have hge := Hge.out
          repeat ((first | (refine mix3_free (v := ?_) rfl rfl ?_ (mix3_norm (a' := ?_) ?_ ?_); rotate_left; focus (intro w'; go_simp; first | done | (with_reducible rfl))) | (refine mix3_pure (v := ?_) rfl rfl ?_ (mix3_norm (a' := ?_) ?_ ?_); rotate_left; focus (intro w' hR; go_simp; first | done | (with_reducible rfl))) | refine mix3_freeOff rfl rfl (mix3_norm (a' := ?_) ?_ ?_) | refine mix3_off rfl rfl (mix3_norm (a' := ?_) ?_ ?_)); rotate_left; focus (simp only [Act.put, List.getElem_toArray, List.getElem_cons_zero, List.getElem_cons_succ, List.setIfInBounds_toArray, List.set_cons_zero, List.set_cons_succ]; rfl))
          refine mix3_skip (KeepsBut.refl []) rfl rfl (mix3_norm (a' := ?_) ?_ ?_)
          rotate_left
          focus (simp only [Act.put, List.getElem_toArray, List.getElem_cons_zero, List.getElem_cons_succ, List.setIfInBounds_toArray, List.set_cons_zero, List.set_cons_succ]; rfl)
          repeat ((first | (refine mix3_free (v := ?_) rfl rfl ?_ (mix3_norm (a' := ?_) ?_ ?_); rotate_left; focus (intro w'; go_simp; first | done | (with_reducible rfl))) | (refine mix3_pure (v := ?_) rfl rfl ?_ (mix3_norm (a' := ?_) ?_ ?_); rotate_left; focus (intro w' hR; go_simp; first | done | (with_reducible rfl))) | refine mix3_freeOff rfl rfl (mix3_norm (a' := ?_) ?_ ?_) | refine mix3_off rfl rfl (mix3_norm (a' := ?_) ?_ ?_)); rotate_left; focus (simp only [Act.put, List.getElem_toArray, List.getElem_cons_zero, List.getElem_cons_succ, List.setIfInBounds_toArray, List.set_cons_zero, List.set_cons_succ]; rfl))
          refine mix3_done ?_
          clear hge Hge
          go_wp2_with fail
          try simp only [Exit.inBlock, Exit.then]
          exact bodyPost_ret (results_tmp rfl _ _ _) rfl ⟨by rw [← HX.out]; rfl, by rw [← HX.out]; exact HR2.out⟩
end Go.Proofs.Ytebcginnnjigjaa

end
section
/- order2, median, medianAdjacent at numbers: walked. -/
open Go.RowKit
namespace Go.Proofs.Ytebcginnnjigjaa
/-- The row and the count of swaps, which stands in block s alone. -/
structure SwI (W0 W : World) (b c : Nat) (d : Array Int) (s : Nat) (k : Nat) : Prop where
  row : ARow W b c d
  sw : W.heap[s]? = some (.cells #[.int .i64 (k : Nat)] 3 (0, 0))
  chg : Chg (fun i => i = s) W0 W
theorem SwI.set {W0 W : World} {b c s k : Nat} {d : Array Int} (h : SwI W0 W b c d s k) (hbs : b ≠ s) : SwI W0 (W.setCell ⟨s, 0, none⟩ (.int .i64 ((k + 1 : Nat) : Int))) b c d s (k + 1) :=
  ⟨h.row.chg ((Chg.refl (fun i => i = s) W).set s 0 _ (fun _ => rfl)) hbs, heap_setCell_same W s 0 _ _ _ h.sw, h.chg.set s 0 _ (fun _ => rfl)⟩
set_option maxHeartbeats 4000000 in
set_option maxRecDepth 100000 in
theorem order2_any (W : World) (b c : Nat) (d : Array Int) (s k x y : Nat) (h : SwI W W b c d s k) (hbs : b ≠ s) (hx : x < d.size) (hy : y < d.size) (hn : d.size ≤ 1000) (hk : k ≤ 1000) :
    Calls Try.prog 100 #[.slice (some ⟨b, 0, none⟩) d.size c, .int .i64 (x : Nat), .int .i64 (y : Nat), .pointer (some ⟨s, 0, none⟩)] W fun r W' =>
      r = .returned (.tuple #[.int .i64 ((Sort.order2 Sort.ltInt d x y k).1 : Nat), .int .i64 ((Sort.order2 Sort.ltInt d x y k).2.1 : Nat)]) ∧ SwI W W' b c d s (Sort.order2 Sort.ltInt d x y k).2.2 := by
  have H := Lib.hid h
  have s0 := h.row.cell hx
  have t0 := h.row.cell hy
  obtain ⟨n, hnd⟩ : ∃ n, n = d.size := ⟨_, rfl⟩
  rw [← hnd] at hx hy hn ⊢
  have hxn : (x : Int) < (n : Int) := by omega
  have hyn : (y : Int) < (n : Int) := by omega
  have HO := Lib.hid (show Sort.order2 Sort.ltInt d x y k = if Sort.ltInt d[y]! d[x]! then (y, x, k + 1) else (x, y, k) from rfl)
  obtain ⟨u, hu⟩ : ∃ u, d[x]! = u := ⟨_, rfl⟩
  obtain ⟨v, hv⟩ : ∃ v, d[y]! = v := ⟨_, rfl⟩
  rw [hu] at s0 HO
  rw [hv] at t0 HO
  have hl := less_any v u
  generalize Sort.order2 Sort.ltInt d x y k = o at HO ⊢
  clear h hu hv hnd
  go_enter Try.func100, Try.ntmps100
  go_wp2_with fail
  have p0 := fun w' (hk : KeepsBut [] W.drew w') => hk.cell (p := ⟨b, x, none⟩) s0 (by simp)
  have p1 := fun w' (hk : KeepsBut [] W.drew w') => hk.cell (p := ⟨b, y, none⟩) t0 (by simp)
  have HD := Lib.hid (show SwI W W.drew b c d s k from ⟨H.out.row.drew, H.out.sw, H.out.chg.drew⟩)
  clear s0 t0
  refine wp_region_mix3 (KeepsBut []) (KeepsBut.refl []) (KeepsBut.trans []) [] [(0, 0), (0, 1), (0, 2), (0, 4), (0, 5), (0, 6), (1, 3), (1, 7), (2, 8)] (by kernel_rfl) (by kernel_rfl) (fun d _ _ _ _ h => by cases d <;> exact h) ?_
  generalize W.drew = w2 at p0 p1 HD ⊢
  repeat ((first | (refine mix3_free (v := ?_) rfl rfl ?_ (mix3_norm (a' := ?_) ?_ ?_); rotate_left; focus (intro w'; go_simp; first | done | (with_reducible rfl))) | (refine mix3_pure (v := ?_) rfl rfl ?_ (mix3_norm (a' := ?_) ?_ ?_); rotate_left; focus (intro w' hR; go_simp; first | done | (with_reducible rfl))) | refine mix3_freeOff rfl rfl (mix3_norm (a' := ?_) ?_ ?_) | refine mix3_off rfl rfl (mix3_norm (a' := ?_) ?_ ?_)); rotate_left; focus (simp only [Act.put, List.getElem_toArray, List.getElem_cons_zero, List.getElem_cons_succ, List.setIfInBounds_toArray, List.set_cons_zero, List.set_cons_succ]; rfl))
  clear p0 p1
  cases hb : Sort.ltInt v u with
  | true =>
    rw [hb] at hl HO
    have ho := HO.out.trans (if_pos rfl)
    have HF := Lib.hid ho
    have HS := Lib.hid (HD.out.set hbs)
    obtain ⟨c0, f0⟩ := cells1 HD.out.sw
    clear ho HO
    refine mix3_eff rfl ?_
    simp only [List.getElem_toArray, List.getElem_cons_zero, List.getElem_cons_succ]
    go_wp2_with fail
    refine (hl _).mono ?_
    rintro r' w3 ⟨rfl, rfl⟩
    go_wp2_with fail
    refine mixQ3_normal (KeepsBut.refl _ _) rfl ?_
    refine mix3_done ?_
    go_wp2_with fail
    try simp only [Exit.inBlock, Exit.then]
    exact bodyPost_ret (results_tmp2 rfl _ _ _) rfl ⟨by rw [HF.out]; rfl, by rw [HF.out]; exact HS.out⟩
  | false =>
    rw [hb] at hl HO
    have ho := HO.out.trans (if_neg (by decide))
    have HF := Lib.hid ho
    clear ho HO
    refine mix3_eff rfl ?_
    simp only [List.getElem_toArray, List.getElem_cons_zero, List.getElem_cons_succ]
    go_wp2_with fail
    refine (hl _).mono ?_
    rintro r' w3 ⟨rfl, rfl⟩
    go_wp2_with fail
    refine mixQ3_normal (KeepsBut.refl _ _) rfl ?_
    refine mix3_done ?_
    go_wp2_with fail
    try simp only [Exit.inBlock, Exit.then]
    exact bodyPost_ret (results_tmp2 rfl _ _ _) rfl ⟨by rw [HF.out]; rfl, by rw [HF.out]; exact HD.out⟩
theorem order2_in {d : Array Int} {x y k n : Nat} (hx : x < n) (hy : y < n) : (Sort.order2 Sort.ltInt d x y k).1 < n ∧ (Sort.order2 Sort.ltInt d x y k).2.1 < n ∧ (Sort.order2 Sort.ltInt d x y k).2.2 ≤ k + 1 := by
  unfold Sort.order2
  split
  · exact ⟨hy, hx, Nat.le_refl _⟩
  · exact ⟨hx, hy, Nat.le_succ _⟩
theorem SwI.trans {W0 W1 W2 : World} {b c s k l : Nat} {d : Array Int} (h : SwI W0 W1 b c d s k) (h2 : SwI W1 W2 b c d s l) : SwI W0 W2 b c d s l :=
  ⟨h2.row, h2.sw, h.chg.trans h2.chg (fun _ _ e => e)⟩
theorem SwI.here {W0 W1 : World} {b c s k : Nat} {d : Array Int} (h : SwI W0 W1 b c d s k) : SwI W1 W1 b c d s k := ⟨h.row, h.sw, Chg.refl _ _⟩
theorem median_in {d : Array Int} {x y z k n : Nat} (hx : x < n) (hy : y < n) (hz : z < n) : (Sort.median Sort.ltInt d x y z k).1 < n ∧ (Sort.median Sort.ltInt d x y z k).2 ≤ k + 3 := by
  unfold Sort.median
  obtain ⟨a1, a2, a3⟩ := order2_in (d := d) (k := k) hx hy
  obtain ⟨b1, b2, b3⟩ := order2_in (d := d) (k := (Sort.order2 Sort.ltInt d x y k).2.2) a2 hz
  obtain ⟨c1, c2, c3⟩ := order2_in (d := d) (k := (Sort.order2 Sort.ltInt d (Sort.order2 Sort.ltInt d x y k).2.1 z (Sort.order2 Sort.ltInt d x y k).2.2).2.2) a1 b1
  exact ⟨c2, by simp only; omega⟩
set_option maxHeartbeats 4000000 in
set_option maxRecDepth 100000 in
theorem median_any (W : World) (b c : Nat) (d : Array Int) (s k x y z : Nat) (h : SwI W W b c d s k) (hbs : b ≠ s) (hx : x < d.size) (hy : y < d.size) (hz : z < d.size) (hn : d.size ≤ 1000) (hk : k ≤ 900) :
    Calls Try.prog 98 #[.slice (some ⟨b, 0, none⟩) d.size c, .int .i64 (x : Nat), .int .i64 (y : Nat), .int .i64 (z : Nat), .pointer (some ⟨s, 0, none⟩)] W fun r W' =>
      r = .returned (.int .i64 ((Sort.median Sort.ltInt d x y z k).1 : Nat)) ∧ SwI W W' b c d s (Sort.median Sort.ltInt d x y z k).2 := by
  have H := Lib.hid h
  obtain ⟨a1, a2, a3⟩ := order2_in (d := d) (k := k) hx hy
  have HO1 := Lib.hid (order2_any W b c d s k x y h hbs hx hy hn (by omega))
  have HM := Lib.hid (show Sort.median Sort.ltInt d x y z k = ((Sort.order2 Sort.ltInt d (Sort.order2 Sort.ltInt d x y k).1 (Sort.order2 Sort.ltInt d (Sort.order2 Sort.ltInt d x y k).2.1 z (Sort.order2 Sort.ltInt d x y k).2.2).1 (Sort.order2 Sort.ltInt d (Sort.order2 Sort.ltInt d x y k).2.1 z (Sort.order2 Sort.ltInt d x y k).2.2).2.2).2.1, (Sort.order2 Sort.ltInt d (Sort.order2 Sort.ltInt d x y k).1 (Sort.order2 Sort.ltInt d (Sort.order2 Sort.ltInt d x y k).2.1 z (Sort.order2 Sort.ltInt d x y k).2.2).1 (Sort.order2 Sort.ltInt d (Sort.order2 Sort.ltInt d x y k).2.1 z (Sort.order2 Sort.ltInt d x y k).2.2).2.2).2.2) from rfl)
  generalize Sort.median Sort.ltInt d x y z k = m at HM ⊢
  generalize Sort.order2 Sort.ltInt d x y k = r1 at HM HO1 a1 a2 a3
  obtain ⟨b1, b2, b3⟩ := order2_in (d := d) (k := r1.2.2) a2 hz
  have HO2 := Lib.hid (fun W1 (h : SwI W1 W1 b c d s r1.2.2) => order2_any W1 b c d s r1.2.2 r1.2.1 z h hbs a2 hz hn (by omega))
  generalize Sort.order2 Sort.ltInt d r1.2.1 z r1.2.2 = r2 at HM HO2 b1 b2 b3
  obtain ⟨c1, c2, c3⟩ := order2_in (d := d) (k := r2.2.2) a1 b1
  have HO3 := Lib.hid (fun W1 (h : SwI W1 W1 b c d s r2.2.2) => order2_any W1 b c d s r2.2.2 r1.1 r2.1 h hbs a1 b1 hn (by omega))
  generalize Sort.order2 Sort.ltInt d r1.1 r2.1 r2.2.2 = r3 at HM HO3 c1 c2 c3
  obtain ⟨u1, u2, u3⟩ := r1
  obtain ⟨v1, v2, v3⟩ := r2
  obtain ⟨w1', w2', w3'⟩ := r3
  simp only at HO2 HO3 HM
  clear h hx hy hz a1 a2 a3 b1 b2 b3 c1 c2 c3
  go_enter Try.func98, Try.ntmps98
  go_wp2_with fail
  refine HO1.out.mono ?_
  rintro r w1 ⟨rfl, h1⟩
  have H1 := Lib.hid h1
  clear h1 HO1
  go_wp2_with fail
  refine (HO2.out _ H1.out.here).mono ?_
  rintro r w2 ⟨rfl, h2⟩
  have H2 := Lib.hid (H1.out.trans h2)
  clear h2 H1
  go_wp2_with fail
  refine (HO3.out _ H2.out.here).mono ?_
  rintro r w3 ⟨rfl, h3⟩
  have H3 := Lib.hid (H2.out.trans h3)
  clear h3 H2
  go_wp2_with fail
  go_ret
  exact ⟨by rw [HM.out]; rfl, by rw [HM.out]; exact H3.out⟩
set_option maxHeartbeats 4000000 in
set_option maxRecDepth 100000 in
theorem medianAdj_any (W : World) (b c : Nat) (d : Array Int) (s k x : Nat) (h : SwI W W b c d s k) (hbs : b ≠ s) (hx : 1 ≤ x) (hx2 : x + 1 < d.size) (hn : d.size ≤ 1000) (hk : k ≤ 900) :
    Calls Try.prog 97 #[.slice (some ⟨b, 0, none⟩) d.size c, .int .i64 (x : Nat), .pointer (some ⟨s, 0, none⟩)] W fun r W' =>
      r = .returned (.int .i64 ((Sort.medianAdjacent Sort.ltInt d x k).1 : Nat)) ∧ SwI W W' b c d s (Sort.medianAdjacent Sort.ltInt d x k).2 := by
  obtain ⟨x0, hx0⟩ : ∃ x0, x = x0 + 1 := ⟨x - 1, by omega⟩
  subst hx0
  have HM := Lib.hid (median_any W b c d s k x0 (x0 + 1) (x0 + 2) h hbs (by omega) (by omega) (by omega) hn hk)
  unfold Sort.medianAdjacent
  rw [show x0 + 1 - 1 = x0 from rfl, show x0 + 1 + 1 = x0 + 2 from rfl]
  generalize Sort.median Sort.ltInt d x0 (x0 + 1) (x0 + 2) k = m at HM ⊢
  rw [show ((x0 + 1 : Nat) : Int) = (x0 : Int) + 1 by push_cast; rfl, show ((x0 + 2 : Nat) : Int) = (x0 : Int) + 1 + 1 by omega] at HM
  rw [show ((x0 + 1 : Nat) : Int) = (x0 : Int) + 1 by push_cast; rfl]
  have hx00 : x0 ≤ 1000 := by omega
  clear h hx hx2
  go_enter Try.func97, Try.ntmps97
  go_wp2_with fail
  refine HM.out.mono ?_
  rintro r w1 ⟨rfl, h1⟩
  have H1 := Lib.hid h1
  clear h1
  go_wp2_with fail
  go_ret
  exact ⟨rfl, H1.out⟩
end Go.Proofs.Ytebcginnnjigjaa

end
