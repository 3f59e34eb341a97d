/- Puts that can be: in order, in bounds, sectors. -/
import Derived.Test.YtiolfnnkkflaiaaDel1
open Go.RowKit
namespace Go.Proofs.Ytiolfnnkkflaiaa

def rightFrom : Int → List (Int × ByteArray) → Bool
  | _, [] => true
  | z, p :: ps => decide (z < p.1) && decide (p.1 < 128) && rightS p.2 && rightFrom p.1 ps
def rightP (l : List (Int × ByteArray)) : Bool := rightFrom (-1) l
theorem rightFrom_low {z x : Int} {s : ByteArray} {ps : List (Int × ByteArray)} (h : x ≤ z) : rightFrom z ((x, s) :: ps) = false := by
  unfold rightFrom; rw [decide_eq_false (show ¬ z < x by omega)]; rfl
theorem rightFrom_high {z x : Int} {s : ByteArray} {ps : List (Int × ByteArray)} (h : 128 ≤ x) : rightFrom z ((x, s) :: ps) = false := by
  unfold rightFrom; rw [decide_eq_false (show ¬ (x, s).1 < 128 by simp only; omega)]; simp
theorem rightFrom_odd {z x : Int} {s : ByteArray} {ps : List (Int × ByteArray)} (h : rightS s = false) : rightFrom z ((x, s) :: ps) = false := by
  unfold rightFrom; simp [h]
theorem rightFrom_step {z x : Int} {s : ByteArray} {ps : List (Int × ByteArray)} (h1 : ¬ x ≤ z) (h2 : ¬ 128 ≤ x) (h3 : rightS s = true) : rightFrom z ((x, s) :: ps) = rightFrom x ps := by
  rw [rightFrom, decide_eq_true (show z < x by omega), decide_eq_true (show x < 128 by omega), h3]; rfl
theorem drop_at {α : Type} {l : List α} {k : Nat} (hk : k < l.length) : l.drop k = l[k] :: l.drop (k + 1) := List.drop_eq_getElem_cons hk

set_option maxHeartbeats 1000000 in
set_option maxRecDepth 100000 in
theorem delRight_any (w : World) (A : Option Addr) (l : List (Int × ByteArray)) (c : Nat) (hr : Reads w 2 A l.length (pks l)) (hl : l.length ≤ 100000) :
    Calls Try.prog 19 #[.slice A l.length c] w fun e w' => e = .returned (.bool (rightP l)) ∧ Below w.heap.size w w' := by
  have Hr := Lib.hid hr
  clear hr
  go_enter Try.func19, Try.ntmps19
  go_wp2_with fail
  go_loopw [3, 8] (fun z i wr => ∃ (k : Nat) (y : Int), k ≤ l.length ∧ z = .int .i64 y ∧ i = .int .i64 k ∧ Hid (rightFrom y (l.drop k) = rightP l) ∧ Hid (Below w.heap.size w wr)) (fun _ i _ => l.length - (intOf i).toNat)
  case atStart => exact ⟨0, -1, Nat.zero_le _, rfl, rfl, Lib.hid rfl, Lib.hid (Below.refl _ _)⟩
  case round =>
    obtain ⟨k, y, hk, rfl, rfl, HR, Hb⟩ := hrel
    by_cases hlt : k < l.length
    · obtain ⟨ad, rfl, d0, d1⟩ := put_cells (Hr.out.below Hb.out) hlt
      rw [drop_at hlt] at HR
      generalize l[k] = p at d0 d1 HR
      obtain ⟨x, s⟩ := p
      simp only at d0 d1
      obtain ⟨hb1, hg1, hs1⟩ := alloc1 wr #[.int .i64 x, .string s] 93
      obtain ⟨q0, q1, _, _⟩ := cells2 hg1
      have Hb1 := Lib.hid (Hb.out.trans (hb1.mono (B' := w.heap.size) Hb.out.size))
      clear hb1 hg1 hs1
      by_cases h1 : x ≤ y
      · have HF := Lib.hid (HR.out.symm.trans (rightFrom_low h1))
        go_wp2_with fail
        go_ret
        exact ⟨by rw [HF.out]; rfl, Hb1.out⟩
      · by_cases h2 : 128 ≤ x
        · have HF := Lib.hid (HR.out.symm.trans (rightFrom_high h2))
          go_wp2_with fail
          go_ret
          exact ⟨by rw [HF.out]; rfl, Hb1.out⟩
        · have HS := Lib.hid (secRight_any s (wr.alloc (.cells #[.int .i64 x, .string s] 93)))
          cases h3 : rightS s with
          | false =>
            have HF := Lib.hid (HR.out.symm.trans (rightFrom_odd h3))
            rw [h3] at HS
            clear h3
            go_wp2_with fail
            refine HS.out.mono ?_
            rintro e w3 ⟨rfl, rfl⟩
            go_wp2_with fail
            go_ret
            exact ⟨by rw [HF.out]; rfl, Hb1.out⟩
          | true =>
            have HF := Lib.hid ((rightFrom_step h1 h2 h3).symm.trans HR.out)
            rw [h3] at HS
            clear h3
            go_wp2_with fail
            refine HS.out.mono ?_
            rintro e w3 ⟨rfl, rfl⟩
            go_wp2_with fail
            case roundEnd =>
              exact ⟨⟨k + 1, x, by omega, rfl, by push_cast; rfl, HF, Hb1⟩, by simp only [intOf]; omega⟩
    · obtain rfl : k = l.length := by omega
      have HF := Lib.hid (HR.out.symm.trans (by rw [List.drop_length]; rfl : rightFrom y (l.drop l.length) = true))
      go_wp2_with fail
      go_ret
      exact ⟨by rw [HF.out]; rfl, Hb.out⟩

set_option maxHeartbeats 2000000 in
set_option maxRecDepth 100000 in
theorem refRight42_any (w : World) (A : Option Addr) (l : List (Int × ByteArray)) (c : Nat) (hr : Reads w 2 A l.length (pks l)) (hl : l.length ≤ 100000) :
    Calls Try.prog 24 #[.slice A l.length c] w fun e w' => e = .returned (.bool (rightP l)) ∧ Below w.heap.size w w' := by
  have Hr := Lib.hid hr
  clear hr
  go_enter Try.func24, Try.ntmps24
  go_wp2_with fail
  go_loopw [3] (fun i wr => ∃ (k : Nat) (y : Int), k ≤ l.length ∧ i = .int .i64 k ∧ Hid (k = 0 ∧ y = -1 ∨ 0 ≤ y ∧ ∃ j s, k = j + 1 ∧ l[j]? = some (y, s)) ∧ Hid (rightFrom y (l.drop k) = rightP l) ∧ Hid (Below w.heap.size w wr)) (fun i _ => l.length - (intOf i).toNat)
  case atStart => exact ⟨0, -1, Nat.zero_le _, rfl, Lib.hid (.inl ⟨rfl, rfl⟩), Lib.hid rfl, Lib.hid (Below.refl _ _)⟩
  case round =>
    obtain ⟨k, y, hk, rfl, HY, HR, Hb⟩ := hrel
    have hk1 : k ≤ 100000 := Nat.le_trans hk hl
    by_cases hlt : k < l.length
    · have hrr := Hr.out.below Hb.out
      obtain ⟨ad, rfl, d0, d1⟩ := put_cells hrr hlt
      rw [drop_at hlt] at HR
      have hY : k = 0 ∧ y = -1 ∨ 0 ≤ y ∧ ∃ j : Nat, k = j + 1 ∧ wr.cell? (ad.add (j * 2)) = some (.int .i64 y) := by
        rcases HY.out with h | ⟨h, j, s, rfl, hj⟩
        · exact .inl h
        · obtain ⟨hj1, hj2⟩ := List.getElem?_eq_some_iff.1 hj
          obtain ⟨ad', e, f0, _⟩ := put_cells hrr hj1
          injection e with e
          subst e
          rw [hj2] at f0
          exact .inr ⟨h, j, rfl, f0⟩
      have E1 := Lib.hid (List.getElem?_eq_getElem hlt)
      generalize l[k] = p at d0 d1 HR E1
      obtain ⟨x, s⟩ := p
      simp only at d0 d1
      clear hrr
      have hbd : Below wr.heap.size wr wr.drew := (Below.refl _ _).drew
      have Hbd := Lib.hid (Hb.out.trans (hbd.mono (B' := w.heap.size) Hb.out.size))
      have HS := Lib.hid (refSecRight_any s wr.drew)
      have p0 := fun w' (hk : KeepsBut [] wr.drew w') => hk.cell (p := ad.add (k * 2)) d0 (by simp)
      have p1 := fun w' (hk : KeepsBut [] wr.drew w') => hk.cell (p := ⟨(ad.add (k * 2)).block, (ad.add (k * 2)).off + 1, none⟩) d1 (by simp)
      clear d0 d1 hbd
      by_cases h1 : x < 0
      · have HF := Lib.hid (HR.out.symm.trans (rightFrom_low (show x ≤ y by rcases hY with ⟨_, h⟩ | ⟨h, _⟩ <;> omega)))
        clear hY
        go_wp2_with fail
        refine wp_region_mix3 (KeepsBut []) (KeepsBut.refl []) (KeepsBut.trans []) [] [(0, 0), (0, 1), (0, 2), (0, 3), (1, 4), (0, 5), (0, 6), (0, 7), (0, 8), (0, 9), (0, 10), (1, 11), (0, 12), (0, 13), (0, 14), (0, 15), (0, 16), (0, 17), (0, 18), (0, 19), (0, 20), (0, 21), (0, 23), (0, 24), (0, 25), (0, 26), (0, 27), (1, 22), (1, 28), (0, 29), (0, 30), (0, 31), (0, 32), (0, 33), (0, 34), (0, 35), (0, 36), (1, 37), (2, 38), (0, 39), (0, 40)] (by kernel_rfl) (by kernel_rfl) (fun d _ _ _ _ h => by cases d <;> exact h) ?_
        repeat (first
          | (refine mix3_free (v := ?_) rfl rfl ?_ (mix3_norm (a' := ?_) ?_ ?_)
             rotate_left
             focus (intro w'; go_simp; first | done | (with_reducible rfl))
             rotate_left
             focus (simp only [Act.put, List.getElem_toArray, List.getElem_cons_zero, List.getElem_cons_succ, List.setIfInBounds_toArray, List.set_cons_zero, List.set_cons_succ]; rfl))
          | (refine mix3_pure (v := ?_) rfl rfl ?_ (mix3_norm (a' := ?_) ?_ ?_)
             rotate_left
             focus (intro w' hR; go_simp; first | done | (with_reducible rfl))
             rotate_left
             focus (simp only [Act.put, List.getElem_toArray, List.getElem_cons_zero, List.getElem_cons_succ, List.setIfInBounds_toArray, List.set_cons_zero, List.set_cons_succ]; rfl))
          | (refine mix3_freeOff rfl rfl (mix3_norm (a' := ?_) ?_ ?_)
             rotate_left
             focus (simp only [Act.put, List.getElem_toArray, List.getElem_cons_zero, List.getElem_cons_succ, List.setIfInBounds_toArray, List.set_cons_zero, List.set_cons_succ]; rfl))
          | (refine mix3_off rfl rfl (mix3_norm (a' := ?_) ?_ ?_)
             rotate_left
             focus (simp only [Act.put, List.getElem_toArray, List.getElem_cons_zero, List.getElem_cons_succ, List.setIfInBounds_toArray, List.set_cons_zero, List.set_cons_succ]; rfl)))
        refine mix3_skip (KeepsBut.refl []) rfl rfl (mix3_norm (a' := ?_) ?_ ?_)
        rotate_left
        focus (simp only [Act.put, List.getElem_toArray, List.getElem_cons_zero, List.getElem_cons_succ, List.setIfInBounds_toArray, List.set_cons_zero, List.set_cons_succ]; rfl)
        repeat (first
          | (refine mix3_free (v := ?_) rfl rfl ?_ (mix3_norm (a' := ?_) ?_ ?_)
             rotate_left
             focus (intro w'; go_simp; first | done | (with_reducible rfl))
             rotate_left
             focus (simp only [Act.put, List.getElem_toArray, List.getElem_cons_zero, List.getElem_cons_succ, List.setIfInBounds_toArray, List.set_cons_zero, List.set_cons_succ]; rfl))
          | (refine mix3_pure (v := ?_) rfl rfl ?_ (mix3_norm (a' := ?_) ?_ ?_)
             rotate_left
             focus (intro w' hR; go_simp; first | done | (with_reducible rfl))
             rotate_left
             focus (simp only [Act.put, List.getElem_toArray, List.getElem_cons_zero, List.getElem_cons_succ, List.setIfInBounds_toArray, List.set_cons_zero, List.set_cons_succ]; rfl))
          | (refine mix3_freeOff rfl rfl (mix3_norm (a' := ?_) ?_ ?_)
             rotate_left
             focus (simp only [Act.put, List.getElem_toArray, List.getElem_cons_zero, List.getElem_cons_succ, List.setIfInBounds_toArray, List.set_cons_zero, List.set_cons_succ]; rfl))
          | (refine mix3_off rfl rfl (mix3_norm (a' := ?_) ?_ ?_)
             rotate_left
             focus (simp only [Act.put, List.getElem_toArray, List.getElem_cons_zero, List.getElem_cons_succ, List.setIfInBounds_toArray, List.set_cons_zero, List.set_cons_succ]; rfl)))
        refine mix3_done ?_
        clear p0 p1
        go_wp2_with fail
        go_ret
        exact ⟨by rw [HF.out]; rfl, Hbd.out⟩
      · by_cases h2 : 128 ≤ x
        · have HF := Lib.hid (HR.out.symm.trans (rightFrom_high h2))
          clear hY
          go_wp2_with fail
          refine wp_region_mix3 (KeepsBut []) (KeepsBut.refl []) (KeepsBut.trans []) [] [(0, 0), (0, 1), (0, 2), (0, 3), (1, 4), (0, 5), (0, 6), (0, 7), (0, 8), (0, 9), (0, 10), (1, 11), (0, 12), (0, 13), (0, 14), (0, 15), (0, 16), (0, 17), (0, 18), (0, 19), (0, 20), (0, 21), (0, 23), (0, 24), (0, 25), (0, 26), (0, 27), (1, 22), (1, 28), (0, 29), (0, 30), (0, 31), (0, 32), (0, 33), (0, 34), (0, 35), (0, 36), (1, 37), (2, 38), (0, 39), (0, 40)] (by kernel_rfl) (by kernel_rfl) (fun d _ _ _ _ h => by cases d <;> exact h) ?_
          have b1 : decide (x < 0) = false := decide_eq_false (by omega)
          have b2 : decide (128 ≤ x) = true := decide_eq_true (by omega)
          repeat (first
            | (refine mix3_free (v := ?_) rfl rfl ?_ (mix3_norm (a' := ?_) ?_ ?_)
               rotate_left
               focus (intro w'; go_simp; first | done | (with_reducible rfl))
               rotate_left
               focus (simp only [Act.put, List.getElem_toArray, List.getElem_cons_zero, List.getElem_cons_succ, List.setIfInBounds_toArray, List.set_cons_zero, List.set_cons_succ]; rfl))
            | (refine mix3_pure (v := ?_) rfl rfl ?_ (mix3_norm (a' := ?_) ?_ ?_)
               rotate_left
               focus (intro w' hR; go_simp; first | done | (with_reducible rfl))
               rotate_left
               focus (simp only [Act.put, List.getElem_toArray, List.getElem_cons_zero, List.getElem_cons_succ, List.setIfInBounds_toArray, List.set_cons_zero, List.set_cons_succ]; rfl))
            | (refine mix3_freeOff rfl rfl (mix3_norm (a' := ?_) ?_ ?_)
               rotate_left
               focus (simp only [Act.put, List.getElem_toArray, List.getElem_cons_zero, List.getElem_cons_succ, List.setIfInBounds_toArray, List.set_cons_zero, List.set_cons_succ]; rfl))
            | (refine mix3_off rfl rfl (mix3_norm (a' := ?_) ?_ ?_)
               rotate_left
               focus (simp only [Act.put, List.getElem_toArray, List.getElem_cons_zero, List.getElem_cons_succ, List.setIfInBounds_toArray, List.set_cons_zero, List.set_cons_succ]; rfl)))
          refine mix3_skip (KeepsBut.refl []) rfl rfl (mix3_norm (a' := ?_) ?_ ?_)
          rotate_left
          focus (simp only [Act.put, List.getElem_toArray, List.getElem_cons_zero, List.getElem_cons_succ, List.setIfInBounds_toArray, List.set_cons_zero, List.set_cons_succ]; rfl)
          repeat (first
            | (refine mix3_free (v := ?_) rfl rfl ?_ (mix3_norm (a' := ?_) ?_ ?_)
               rotate_left
               focus (intro w'; go_simp; first | done | (with_reducible rfl))
               rotate_left
               focus (simp only [Act.put, List.getElem_toArray, List.getElem_cons_zero, List.getElem_cons_succ, List.setIfInBounds_toArray, List.set_cons_zero, List.set_cons_succ]; rfl))
            | (refine mix3_pure (v := ?_) rfl rfl ?_ (mix3_norm (a' := ?_) ?_ ?_)
               rotate_left
               focus (intro w' hR; go_simp; first | done | (with_reducible rfl))
               rotate_left
               focus (simp only [Act.put, List.getElem_toArray, List.getElem_cons_zero, List.getElem_cons_succ, List.setIfInBounds_toArray, List.set_cons_zero, List.set_cons_succ]; rfl))
            | (refine mix3_freeOff rfl rfl (mix3_norm (a' := ?_) ?_ ?_)
               rotate_left
               focus (simp only [Act.put, List.getElem_toArray, List.getElem_cons_zero, List.getElem_cons_succ, List.setIfInBounds_toArray, List.set_cons_zero, List.set_cons_succ]; rfl))
            | (refine mix3_off rfl rfl (mix3_norm (a' := ?_) ?_ ?_)
               rotate_left
               focus (simp only [Act.put, List.getElem_toArray, List.getElem_cons_zero, List.getElem_cons_succ, List.setIfInBounds_toArray, List.set_cons_zero, List.set_cons_succ]; rfl)))
          refine mix3_done ?_
          clear p0 p1 b1 b2
          go_wp2_with fail
          go_ret
          exact ⟨by rw [HF.out]; rfl, Hbd.out⟩
        · rcases hY with ⟨rfl, rfl⟩ | ⟨h0, j, hkj, d2⟩
          · have hy : (-1 : Int) < x := by omega
            have p0 : ∀ w', KeepsBut [] wr.drew w' → w'.cell? ad = some (.int .i64 x) := p0
            have p1 : ∀ w', KeepsBut [] wr.drew w' → w'.cell? ⟨ad.block, ad.off + 1, none⟩ = some (.string s) := p1
            cases h3 : rightS s with
            | false =>
              have HF := Lib.hid (HR.out.symm.trans (rightFrom_odd h3))
              rw [h3] at HS
              clear h3
              go_wp2_with fail
              refine wp_region_mix3 (KeepsBut []) (KeepsBut.refl []) (KeepsBut.trans []) [] [(0, 0), (0, 1), (0, 2), (0, 3), (1, 4), (0, 5), (0, 6), (0, 7), (0, 8), (0, 9), (0, 10), (1, 11), (0, 12), (0, 13), (0, 14), (0, 15), (0, 16), (0, 17), (0, 18), (0, 19), (0, 20), (0, 21), (0, 23), (0, 24), (0, 25), (0, 26), (0, 27), (1, 22), (1, 28), (0, 29), (0, 30), (0, 31), (0, 32), (0, 33), (0, 34), (0, 35), (0, 36), (1, 37), (2, 38), (0, 39), (0, 40)] (by kernel_rfl) (by kernel_rfl) (fun d _ _ _ _ h => by cases d <;> exact h) ?_
              have b1 : decide (x < 0) = false := decide_eq_false (by omega)
              have b2 : decide (128 ≤ x) = false := decide_eq_false (by omega)
              repeat (first
                | (refine mix3_free (v := ?_) rfl rfl ?_ (mix3_norm (a' := ?_) ?_ ?_)
                   rotate_left
                   focus (intro w'; go_simp; first | done | (with_reducible rfl))
                   rotate_left
                   focus (simp only [Act.put, List.getElem_toArray, List.getElem_cons_zero, List.getElem_cons_succ, List.setIfInBounds_toArray, List.set_cons_zero, List.set_cons_succ]; rfl))
                | (refine mix3_pure (v := ?_) rfl rfl ?_ (mix3_norm (a' := ?_) ?_ ?_)
                   rotate_left
                   focus (intro w' hR; go_simp; first | done | (with_reducible rfl))
                   rotate_left
                   focus (simp only [Act.put, List.getElem_toArray, List.getElem_cons_zero, List.getElem_cons_succ, List.setIfInBounds_toArray, List.set_cons_zero, List.set_cons_succ]; rfl))
                | (refine mix3_freeOff rfl rfl (mix3_norm (a' := ?_) ?_ ?_)
                   rotate_left
                   focus (simp only [Act.put, List.getElem_toArray, List.getElem_cons_zero, List.getElem_cons_succ, List.setIfInBounds_toArray, List.set_cons_zero, List.set_cons_succ]; rfl))
                | (refine mix3_off rfl rfl (mix3_norm (a' := ?_) ?_ ?_)
                   rotate_left
                   focus (simp only [Act.put, List.getElem_toArray, List.getElem_cons_zero, List.getElem_cons_succ, List.setIfInBounds_toArray, List.set_cons_zero, List.set_cons_succ]; rfl)))
              refine mix3_eff rfl ?_
              simp only [List.getElem_toArray, List.getElem_cons_zero, List.getElem_cons_succ]
              go_wp2_with fail
              refine HS.out.mono ?_
              rintro e w3 ⟨rfl, rfl⟩
              go_wp2_with fail
              refine mixQ3_normal (KeepsBut.refl _ _) rfl ?_
              repeat (first
                | (refine mix3_free (v := ?_) rfl rfl ?_ (mix3_norm (a' := ?_) ?_ ?_)
                   rotate_left
                   focus (intro w'; go_simp; first | done | (with_reducible rfl))
                   rotate_left
                   focus (simp only [Act.put, List.getElem_toArray, List.getElem_cons_zero, List.getElem_cons_succ, List.setIfInBounds_toArray, List.set_cons_zero, List.set_cons_succ]; rfl))
                | (refine mix3_pure (v := ?_) rfl rfl ?_ (mix3_norm (a' := ?_) ?_ ?_)
                   rotate_left
                   focus (intro w' hR; go_simp; first | done | (with_reducible rfl))
                   rotate_left
                   focus (simp only [Act.put, List.getElem_toArray, List.getElem_cons_zero, List.getElem_cons_succ, List.setIfInBounds_toArray, List.set_cons_zero, List.set_cons_succ]; rfl))
                | (refine mix3_freeOff rfl rfl (mix3_norm (a' := ?_) ?_ ?_)
                   rotate_left
                   focus (simp only [Act.put, List.getElem_toArray, List.getElem_cons_zero, List.getElem_cons_succ, List.setIfInBounds_toArray, List.set_cons_zero, List.set_cons_succ]; rfl))
                | (refine mix3_off rfl rfl (mix3_norm (a' := ?_) ?_ ?_)
                   rotate_left
                   focus (simp only [Act.put, List.getElem_toArray, List.getElem_cons_zero, List.getElem_cons_succ, List.setIfInBounds_toArray, List.set_cons_zero, List.set_cons_succ]; rfl)))
              refine mix3_done ?_
              clear p0 p1 b1 b2
              go_wp2_with fail
              go_ret
              exact ⟨by rw [HF.out]; rfl, Hbd.out⟩
            | true =>
              have HF := Lib.hid ((rightFrom_step (show ¬ x ≤ -1 by omega) h2 h3).symm.trans HR.out)
              rw [h3] at HS
              clear h3
              go_wp2_with fail
              refine wp_region_mix3 (KeepsBut []) (KeepsBut.refl []) (KeepsBut.trans []) [] [(0, 0), (0, 1), (0, 2), (0, 3), (1, 4), (0, 5), (0, 6), (0, 7), (0, 8), (0, 9), (0, 10), (1, 11), (0, 12), (0, 13), (0, 14), (0, 15), (0, 16), (0, 17), (0, 18), (0, 19), (0, 20), (0, 21), (0, 23), (0, 24), (0, 25), (0, 26), (0, 27), (1, 22), (1, 28), (0, 29), (0, 30), (0, 31), (0, 32), (0, 33), (0, 34), (0, 35), (0, 36), (1, 37), (2, 38), (0, 39), (0, 40)] (by kernel_rfl) (by kernel_rfl) (fun d _ _ _ _ h => by cases d <;> exact h) ?_
              have b1 : decide (x < 0) = false := decide_eq_false (by omega)
              have b2 : decide (128 ≤ x) = false := decide_eq_false (by omega)
              repeat (first
                | (refine mix3_free (v := ?_) rfl rfl ?_ (mix3_norm (a' := ?_) ?_ ?_)
                   rotate_left
                   focus (intro w'; go_simp; first | done | (with_reducible rfl))
                   rotate_left
                   focus (simp only [Act.put, List.getElem_toArray, List.getElem_cons_zero, List.getElem_cons_succ, List.setIfInBounds_toArray, List.set_cons_zero, List.set_cons_succ]; rfl))
                | (refine mix3_pure (v := ?_) rfl rfl ?_ (mix3_norm (a' := ?_) ?_ ?_)
                   rotate_left
                   focus (intro w' hR; go_simp; first | done | (with_reducible rfl))
                   rotate_left
                   focus (simp only [Act.put, List.getElem_toArray, List.getElem_cons_zero, List.getElem_cons_succ, List.setIfInBounds_toArray, List.set_cons_zero, List.set_cons_succ]; rfl))
                | (refine mix3_freeOff rfl rfl (mix3_norm (a' := ?_) ?_ ?_)
                   rotate_left
                   focus (simp only [Act.put, List.getElem_toArray, List.getElem_cons_zero, List.getElem_cons_succ, List.setIfInBounds_toArray, List.set_cons_zero, List.set_cons_succ]; rfl))
                | (refine mix3_off rfl rfl (mix3_norm (a' := ?_) ?_ ?_)
                   rotate_left
                   focus (simp only [Act.put, List.getElem_toArray, List.getElem_cons_zero, List.getElem_cons_succ, List.setIfInBounds_toArray, List.set_cons_zero, List.set_cons_succ]; rfl)))
              refine mix3_eff rfl ?_
              simp only [List.getElem_toArray, List.getElem_cons_zero, List.getElem_cons_succ]
              go_wp2_with fail
              refine HS.out.mono ?_
              rintro e w3 ⟨rfl, rfl⟩
              go_wp2_with fail
              refine mixQ3_normal (KeepsBut.refl _ _) rfl ?_
              repeat (first
                | (refine mix3_free (v := ?_) rfl rfl ?_ (mix3_norm (a' := ?_) ?_ ?_)
                   rotate_left
                   focus (intro w'; go_simp; first | done | (with_reducible rfl))
                   rotate_left
                   focus (simp only [Act.put, List.getElem_toArray, List.getElem_cons_zero, List.getElem_cons_succ, List.setIfInBounds_toArray, List.set_cons_zero, List.set_cons_succ]; rfl))
                | (refine mix3_pure (v := ?_) rfl rfl ?_ (mix3_norm (a' := ?_) ?_ ?_)
                   rotate_left
                   focus (intro w' hR; go_simp; first | done | (with_reducible rfl))
                   rotate_left
                   focus (simp only [Act.put, List.getElem_toArray, List.getElem_cons_zero, List.getElem_cons_succ, List.setIfInBounds_toArray, List.set_cons_zero, List.set_cons_succ]; rfl))
                | (refine mix3_freeOff rfl rfl (mix3_norm (a' := ?_) ?_ ?_)
                   rotate_left
                   focus (simp only [Act.put, List.getElem_toArray, List.getElem_cons_zero, List.getElem_cons_succ, List.setIfInBounds_toArray, List.set_cons_zero, List.set_cons_succ]; rfl))
                | (refine mix3_off rfl rfl (mix3_norm (a' := ?_) ?_ ?_)
                   rotate_left
                   focus (simp only [Act.put, List.getElem_toArray, List.getElem_cons_zero, List.getElem_cons_succ, List.setIfInBounds_toArray, List.set_cons_zero, List.set_cons_succ]; rfl)))
              refine mix3_done ?_
              clear p0 p1 b1 b2
              go_wp2_with fail
              case roundEnd =>
                exact ⟨⟨_, x, by omega, by push_cast; rfl, Lib.hid (.inr ⟨by omega, 0, s, rfl, E1.out⟩), HF, Hbd⟩, by simp only [intOf]; omega⟩
          · have p2 := fun w' (hk : KeepsBut [] wr.drew w') => hk.cell (p := ad.add (j * 2)) d2 (by simp)
            have hk0 : 0 < k := by omega
            have ew : IntKind.i64.wrap ((k : Int) - 1) = (j : Int) := by rw [IntWalk.i64_in ((k : Int) - 1) ⟨by omega, by omega⟩]; omega
            have hjI : (j : Int) < (l.length : Int) := by omega
            have hjl : j < l.length := by omega
            have Hkj := Lib.hid hkj
            clear HY
            clear hkj
            clear d2
            by_cases h4 : x ≤ y
            · have HF := Lib.hid (HR.out.symm.trans (rightFrom_low h4))
              go_wp2_with fail
              refine wp_region_mix3 (KeepsBut []) (KeepsBut.refl []) (KeepsBut.trans []) [] [(0, 0), (0, 1), (0, 2), (0, 3), (1, 4), (0, 5), (0, 6), (0, 7), (0, 8), (0, 9), (0, 10), (1, 11), (0, 12), (0, 13), (0, 14), (0, 15), (0, 16), (0, 17), (0, 18), (0, 19), (0, 20), (0, 21), (0, 23), (0, 24), (0, 25), (0, 26), (0, 27), (1, 22), (1, 28), (0, 29), (0, 30), (0, 31), (0, 32), (0, 33), (0, 34), (0, 35), (0, 36), (1, 37), (2, 38), (0, 39), (0, 40)] (by kernel_rfl) (by kernel_rfl) (fun d _ _ _ _ h => by cases d <;> exact h) ?_
              have b1 : decide (x < 0) = false := decide_eq_false (by omega)
              have b2 : decide (128 ≤ x) = false := decide_eq_false (by omega)
              have b3 : decide (0 < (k : Int)) = true := decide_eq_true (by omega)
              have b4 : decide (x ≤ y) = true := decide_eq_true (by omega)
              repeat (first
                | (refine mix3_free (v := ?_) rfl rfl ?_ (mix3_norm (a' := ?_) ?_ ?_)
                   rotate_left
                   focus (intro w'; go_simp; first | done | (with_reducible rfl))
                   rotate_left
                   focus (simp only [Act.put, List.getElem_toArray, List.getElem_cons_zero, List.getElem_cons_succ, List.setIfInBounds_toArray, List.set_cons_zero, List.set_cons_succ]; rfl))
                | (refine mix3_pure (v := ?_) rfl rfl ?_ (mix3_norm (a' := ?_) ?_ ?_)
                   rotate_left
                   focus (intro w' hR; go_simp; first | done | (with_reducible rfl))
                   rotate_left
                   focus (simp only [Act.put, List.getElem_toArray, List.getElem_cons_zero, List.getElem_cons_succ, List.setIfInBounds_toArray, List.set_cons_zero, List.set_cons_succ]; rfl))
                | (refine mix3_freeOff rfl rfl (mix3_norm (a' := ?_) ?_ ?_)
                   rotate_left
                   focus (simp only [Act.put, List.getElem_toArray, List.getElem_cons_zero, List.getElem_cons_succ, List.setIfInBounds_toArray, List.set_cons_zero, List.set_cons_succ]; rfl))
                | (refine mix3_off rfl rfl (mix3_norm (a' := ?_) ?_ ?_)
                   rotate_left
                   focus (simp only [Act.put, List.getElem_toArray, List.getElem_cons_zero, List.getElem_cons_succ, List.setIfInBounds_toArray, List.set_cons_zero, List.set_cons_succ]; rfl)))
              refine mix3_skip (KeepsBut.refl []) rfl rfl (mix3_norm (a' := ?_) ?_ ?_)
              rotate_left
              focus (simp only [Act.put, List.getElem_toArray, List.getElem_cons_zero, List.getElem_cons_succ, List.setIfInBounds_toArray, List.set_cons_zero, List.set_cons_succ]; rfl)
              repeat (first
                | (refine mix3_free (v := ?_) rfl rfl ?_ (mix3_norm (a' := ?_) ?_ ?_)
                   rotate_left
                   focus (intro w'; go_simp; first | done | (with_reducible rfl))
                   rotate_left
                   focus (simp only [Act.put, List.getElem_toArray, List.getElem_cons_zero, List.getElem_cons_succ, List.setIfInBounds_toArray, List.set_cons_zero, List.set_cons_succ]; rfl))
                | (refine mix3_pure (v := ?_) rfl rfl ?_ (mix3_norm (a' := ?_) ?_ ?_)
                   rotate_left
                   focus (intro w' hR; go_simp; first | done | (with_reducible rfl))
                   rotate_left
                   focus (simp only [Act.put, List.getElem_toArray, List.getElem_cons_zero, List.getElem_cons_succ, List.setIfInBounds_toArray, List.set_cons_zero, List.set_cons_succ]; rfl))
                | (refine mix3_freeOff rfl rfl (mix3_norm (a' := ?_) ?_ ?_)
                   rotate_left
                   focus (simp only [Act.put, List.getElem_toArray, List.getElem_cons_zero, List.getElem_cons_succ, List.setIfInBounds_toArray, List.set_cons_zero, List.set_cons_succ]; rfl))
                | (refine mix3_off rfl rfl (mix3_norm (a' := ?_) ?_ ?_)
                   rotate_left
                   focus (simp only [Act.put, List.getElem_toArray, List.getElem_cons_zero, List.getElem_cons_succ, List.setIfInBounds_toArray, List.set_cons_zero, List.set_cons_succ]; rfl)))
              refine mix3_done ?_
              clear p0 p1 b1 b2 b3 b4
              go_wp2_with fail
              go_ret
              exact ⟨by rw [HF.out]; rfl, Hbd.out⟩
            · skip
              cases h3 : rightS s with
              | false =>
                have HF := Lib.hid (HR.out.symm.trans (rightFrom_odd h3))
                rw [h3] at HS
                clear h3
                go_wp2_with fail
                refine wp_region_mix3 (KeepsBut []) (KeepsBut.refl []) (KeepsBut.trans []) [] [(0, 0), (0, 1), (0, 2), (0, 3), (1, 4), (0, 5), (0, 6), (0, 7), (0, 8), (0, 9), (0, 10), (1, 11), (0, 12), (0, 13), (0, 14), (0, 15), (0, 16), (0, 17), (0, 18), (0, 19), (0, 20), (0, 21), (0, 23), (0, 24), (0, 25), (0, 26), (0, 27), (1, 22), (1, 28), (0, 29), (0, 30), (0, 31), (0, 32), (0, 33), (0, 34), (0, 35), (0, 36), (1, 37), (2, 38), (0, 39), (0, 40)] (by kernel_rfl) (by kernel_rfl) (fun d _ _ _ _ h => by cases d <;> exact h) ?_
                have b1 : decide (x < 0) = false := decide_eq_false (by omega)
                have b2 : decide (128 ≤ x) = false := decide_eq_false (by omega)
                have b3 : decide (0 < (k : Int)) = true := decide_eq_true (by omega)
                have b4 : decide (x ≤ y) = false := decide_eq_false (by omega)
                repeat (first
                  | (refine mix3_free (v := ?_) rfl rfl ?_ (mix3_norm (a' := ?_) ?_ ?_)
                     rotate_left
                     focus (intro w'; go_simp; first | done | (with_reducible rfl))
                     rotate_left
                     focus (simp only [Act.put, List.getElem_toArray, List.getElem_cons_zero, List.getElem_cons_succ, List.setIfInBounds_toArray, List.set_cons_zero, List.set_cons_succ]; rfl))
                  | (refine mix3_pure (v := ?_) rfl rfl ?_ (mix3_norm (a' := ?_) ?_ ?_)
                     rotate_left
                     focus (intro w' hR; go_simp; first | done | (with_reducible rfl))
                     rotate_left
                     focus (simp only [Act.put, List.getElem_toArray, List.getElem_cons_zero, List.getElem_cons_succ, List.setIfInBounds_toArray, List.set_cons_zero, List.set_cons_succ]; rfl))
                  | (refine mix3_freeOff rfl rfl (mix3_norm (a' := ?_) ?_ ?_)
                     rotate_left
                     focus (simp only [Act.put, List.getElem_toArray, List.getElem_cons_zero, List.getElem_cons_succ, List.setIfInBounds_toArray, List.set_cons_zero, List.set_cons_succ]; rfl))
                  | (refine mix3_off rfl rfl (mix3_norm (a' := ?_) ?_ ?_)
                     rotate_left
                     focus (simp only [Act.put, List.getElem_toArray, List.getElem_cons_zero, List.getElem_cons_succ, List.setIfInBounds_toArray, List.set_cons_zero, List.set_cons_succ]; rfl)))
                refine mix3_eff rfl ?_
                simp only [List.getElem_toArray, List.getElem_cons_zero, List.getElem_cons_succ]
                go_wp2_with fail
                refine HS.out.mono ?_
                rintro e w3 ⟨rfl, rfl⟩
                go_wp2_with fail
                refine mixQ3_normal (KeepsBut.refl _ _) rfl ?_
                repeat (first
                  | (refine mix3_free (v := ?_) rfl rfl ?_ (mix3_norm (a' := ?_) ?_ ?_)
                     rotate_left
                     focus (intro w'; go_simp; first | done | (with_reducible rfl))
                     rotate_left
                     focus (simp only [Act.put, List.getElem_toArray, List.getElem_cons_zero, List.getElem_cons_succ, List.setIfInBounds_toArray, List.set_cons_zero, List.set_cons_succ]; rfl))
                  | (refine mix3_pure (v := ?_) rfl rfl ?_ (mix3_norm (a' := ?_) ?_ ?_)
                     rotate_left
                     focus (intro w' hR; go_simp; first | done | (with_reducible rfl))
                     rotate_left
                     focus (simp only [Act.put, List.getElem_toArray, List.getElem_cons_zero, List.getElem_cons_succ, List.setIfInBounds_toArray, List.set_cons_zero, List.set_cons_succ]; rfl))
                  | (refine mix3_freeOff rfl rfl (mix3_norm (a' := ?_) ?_ ?_)
                     rotate_left
                     focus (simp only [Act.put, List.getElem_toArray, List.getElem_cons_zero, List.getElem_cons_succ, List.setIfInBounds_toArray, List.set_cons_zero, List.set_cons_succ]; rfl))
                  | (refine mix3_off rfl rfl (mix3_norm (a' := ?_) ?_ ?_)
                     rotate_left
                     focus (simp only [Act.put, List.getElem_toArray, List.getElem_cons_zero, List.getElem_cons_succ, List.setIfInBounds_toArray, List.set_cons_zero, List.set_cons_succ]; rfl)))
                refine mix3_done ?_
                clear p0 p1 p2 b1 b2 b3 b4
                go_wp2_with fail
                go_ret
                exact ⟨by rw [HF.out]; rfl, Hbd.out⟩
              | true =>
                have HF := Lib.hid ((rightFrom_step (show ¬ x ≤ y by omega) h2 h3).symm.trans HR.out)
                rw [h3] at HS
                clear h3
                go_wp2_with fail
                refine wp_region_mix3 (KeepsBut []) (KeepsBut.refl []) (KeepsBut.trans []) [] [(0, 0), (0, 1), (0, 2), (0, 3), (1, 4), (0, 5), (0, 6), (0, 7), (0, 8), (0, 9), (0, 10), (1, 11), (0, 12), (0, 13), (0, 14), (0, 15), (0, 16), (0, 17), (0, 18), (0, 19), (0, 20), (0, 21), (0, 23), (0, 24), (0, 25), (0, 26), (0, 27), (1, 22), (1, 28), (0, 29), (0, 30), (0, 31), (0, 32), (0, 33), (0, 34), (0, 35), (0, 36), (1, 37), (2, 38), (0, 39), (0, 40)] (by kernel_rfl) (by kernel_rfl) (fun d _ _ _ _ h => by cases d <;> exact h) ?_
                have b1 : decide (x < 0) = false := decide_eq_false (by omega)
                have b2 : decide (128 ≤ x) = false := decide_eq_false (by omega)
                have b3 : decide (0 < (k : Int)) = true := decide_eq_true (by omega)
                have b4 : decide (x ≤ y) = false := decide_eq_false (by omega)
                repeat (first
                  | (refine mix3_free (v := ?_) rfl rfl ?_ (mix3_norm (a' := ?_) ?_ ?_)
                     rotate_left
                     focus (intro w'; go_simp; first | done | (with_reducible rfl))
                     rotate_left
                     focus (simp only [Act.put, List.getElem_toArray, List.getElem_cons_zero, List.getElem_cons_succ, List.setIfInBounds_toArray, List.set_cons_zero, List.set_cons_succ]; rfl))
                  | (refine mix3_pure (v := ?_) rfl rfl ?_ (mix3_norm (a' := ?_) ?_ ?_)
                     rotate_left
                     focus (intro w' hR; go_simp; first | done | (with_reducible rfl))
                     rotate_left
                     focus (simp only [Act.put, List.getElem_toArray, List.getElem_cons_zero, List.getElem_cons_succ, List.setIfInBounds_toArray, List.set_cons_zero, List.set_cons_succ]; rfl))
                  | (refine mix3_freeOff rfl rfl (mix3_norm (a' := ?_) ?_ ?_)
                     rotate_left
                     focus (simp only [Act.put, List.getElem_toArray, List.getElem_cons_zero, List.getElem_cons_succ, List.setIfInBounds_toArray, List.set_cons_zero, List.set_cons_succ]; rfl))
                  | (refine mix3_off rfl rfl (mix3_norm (a' := ?_) ?_ ?_)
                     rotate_left
                     focus (simp only [Act.put, List.getElem_toArray, List.getElem_cons_zero, List.getElem_cons_succ, List.setIfInBounds_toArray, List.set_cons_zero, List.set_cons_succ]; rfl)))
                refine mix3_eff rfl ?_
                simp only [List.getElem_toArray, List.getElem_cons_zero, List.getElem_cons_succ]
                go_wp2_with fail
                refine HS.out.mono ?_
                rintro e w3 ⟨rfl, rfl⟩
                go_wp2_with fail
                refine mixQ3_normal (KeepsBut.refl _ _) rfl ?_
                repeat (first
                  | (refine mix3_free (v := ?_) rfl rfl ?_ (mix3_norm (a' := ?_) ?_ ?_)
                     rotate_left
                     focus (intro w'; go_simp; first | done | (with_reducible rfl))
                     rotate_left
                     focus (simp only [Act.put, List.getElem_toArray, List.getElem_cons_zero, List.getElem_cons_succ, List.setIfInBounds_toArray, List.set_cons_zero, List.set_cons_succ]; rfl))
                  | (refine mix3_pure (v := ?_) rfl rfl ?_ (mix3_norm (a' := ?_) ?_ ?_)
                     rotate_left
                     focus (intro w' hR; go_simp; first | done | (with_reducible rfl))
                     rotate_left
                     focus (simp only [Act.put, List.getElem_toArray, List.getElem_cons_zero, List.getElem_cons_succ, List.setIfInBounds_toArray, List.set_cons_zero, List.set_cons_succ]; rfl))
                  | (refine mix3_freeOff rfl rfl (mix3_norm (a' := ?_) ?_ ?_)
                     rotate_left
                     focus (simp only [Act.put, List.getElem_toArray, List.getElem_cons_zero, List.getElem_cons_succ, List.setIfInBounds_toArray, List.set_cons_zero, List.set_cons_succ]; rfl))
                  | (refine mix3_off rfl rfl (mix3_norm (a' := ?_) ?_ ?_)
                     rotate_left
                     focus (simp only [Act.put, List.getElem_toArray, List.getElem_cons_zero, List.getElem_cons_succ, List.setIfInBounds_toArray, List.set_cons_zero, List.set_cons_succ]; rfl)))
                refine mix3_done ?_
                clear p0 p1 p2 b1 b2 b3 b4
                go_wp2_with fail
                case roundEnd =>
                  exact ⟨⟨_, x, by omega, by push_cast; rfl, Lib.hid (.inr ⟨by omega, k, s, rfl, E1.out⟩), HF, Hbd⟩, by simp only [intOf]; omega⟩
    · obtain rfl : k = l.length := by omega
      have HF := Lib.hid (HR.out.symm.trans (by rw [List.drop_length]; rfl : rightFrom y (l.drop l.length) = true))
      go_wp2_with fail
      go_ret
      exact ⟨by rw [HF.out]; rfl, Hb.out⟩
end Go.Proofs.Ytiolfnnkkflaiaa
