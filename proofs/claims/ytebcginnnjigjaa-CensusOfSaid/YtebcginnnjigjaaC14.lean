/- The contracts of the reference's reader: bytes, how far it has come, why no more. -/
import Derived.Test.YtebcginnnjigjaaC5
import Derived.Test.YtebcginnnjigjaaC9
import Derived.Test.YtebcginnnjigjaaC2
import Derived.Deep.QuietTactic
import Derived.BigQuiet
open Go.RowKit
namespace Go.Proofs.Ytebcginnnjigjaa

/-- Block g is a reference's reader: the bytes B, the place, why no more. -/
def IsS (w : World) (g : Nat) (A : Option Addr) (c : Nat) (B : List UInt8) (at_ : Nat) (e : Nat) : Prop :=
  w.heap[g]? = some (.cells #[.slice A B.length c, .int .i64 (at_ : Int), .int .i64 (e : Int)] 99 (0, 0)) ∧ Reads w 1 A B.length (bv B) ∧ B.length ≤ c ∧ B.length ≤ maxLen ∧ at_ ≤ B.length
theorem IsS.lt {w : World} {g : Nat} {A : Option Addr} {c : Nat} {B : List UInt8} {k e : Nat} (h : IsS w g A c B k e) : g < w.heap.size := (Array.getElem?_eq_some_iff.1 h.1).1
theorem IsS.below {w w' : World} {g : Nat} {A : Option Addr} {c : Nat} {B : List UInt8} {k e : Nat} (h : IsS w g A c B k e) (hb : Below w.heap.size w w') : IsS w' g A c B k e :=
  ⟨(hb.block g h.lt).trans h.1, h.2.1.below hb, h.2.2⟩

theorem gNum_shift (B : List UInt8) (k : Nat) (x : Int) (hk : k ≤ B.length) : gNum B k x = gNum (B.drop k) 0 x ∧ gErr B.length k x = gErr (B.drop k).length 0 x := by
  have he : gErr B.length k x = gErr (B.drop k).length 0 x := by
    rw [List.length_drop]
    by_cases h1 : x < 1 ∨ 8 < x
    · rw [gErr_bad (by omega), gErr_bad (by omega)]
    · by_cases h2 : (B.length : Int) < k + x
      · rw [gErr_short (by omega) h2, gErr_short (by omega) (by omega)]
      · rw [gErr_ok (by omega) h2, gErr_ok (by omega) (by omega)]
  refine ⟨?_, he⟩
  unfold gNum
  rw [he]
  simp

theorem Reads.farG {w w' : World} {A : Option Addr} {l : List UInt8} {g : Nat} {cs : Array Value} {t : TypeId} {fr : Nat × Nat} (h : Reads w 1 A l.length (bv l)) (hg : w.heap[g]? = some (.cells cs t fr))
    (hcs : ∀ b : UInt8, (.int .u8 (b.toNat : Int)) ∉ cs) (hk : w.grownBy w' (some g)) : Reads w' 1 A l.length (bv l) := by
  refine ⟨h.1, fun hn => ?_⟩
  obtain ⟨ad, e, hc⟩ := h.2 hn
  refine ⟨ad, e, fun j u hu => ?_⟩
  have h1 := hc j u hu
  refine hk.cell h1 ?_
  intro he
  injection he with he
  have hb : (ad.add j).block = g := he
  have h2 : w.cell? (ad.add j) = (if (ad.add j).spot.isSome then none else cs[(ad.add j).off]?) := by unfold World.cell?; rw [hb, hg]
  rw [h2] at h1
  split at h1
  · cases h1
  · have hu' : u ∈ bv l := List.mem_of_getElem? hu
    simp only [bv, List.mem_map] at hu'
    obtain ⟨b, _, rfl⟩ := hu'
    exact hcs b (Array.mem_of_getElem? h1)

theorem grownBy_drew {w w' : World} {row : Option Nat} (h : w.grownBy w' row) : w.grownBy w'.drew row := ⟨h.os, h.tape, h.output, h.size, h.block⟩

theorem grownBy_drewN {w w' : World} {row : Option Nat} (h : w.grownBy w' row) (n : Nat) : w.grownBy (w'.drewN n) row := ⟨h.os, h.tape, h.output, h.size, h.block⟩

/-! ### Left -/
set_option maxHeartbeats 1000000 in
theorem refNum_any (g : Nat) (A : Option Addr) (c : Nat) (B : List UInt8) (k e : Nat) (x : Int) (w : World) (h : IsS w g A c B k e) :
    Calls Try.prog 42 #[.pointer (some ⟨g, 0, none⟩), .int .i64 x] w fun r w' => r = .returned (.int .u64 (rNum (B.drop k) e x : Nat)) ∧ (∃ k', IsS w' g A c B k' (rNumE (B.drop k) e x) ∧ B.drop k' = rNumL (B.drop k) e x) ∧ w.grownBy w' (some g) := by
  obtain ⟨h1, h2, h3, hm, hk⟩ := id h
  have hc0 : w.cell? ⟨g, 0, none⟩ = some (.slice A B.length c) := by rw [cell_of_row _ _ _ _ _ _ h1]; rfl
  have hc1 : w.cell? ⟨g, 1, none⟩ = some (.int .i64 k) := by rw [cell_of_row _ _ _ _ _ _ h1]; rfl
  have hc2 : w.cell? ⟨g, 2, none⟩ = some (.int .i64 e) := by rw [cell_of_row _ _ _ _ _ _ h1]; rfl
  have hf1 : w.frozen? ⟨g, 1, none⟩ = false := frozen_of_row _ _ _ _ _ h1
  have hf2 : w.frozen? ⟨g, 2, none⟩ = false := frozen_of_row _ _ _ _ _ h1
  have H := Lib.hid h
  have H1 := Lib.hid h1
  have H2 := Lib.hid h2
  have Hm := Lib.hid hm
  clear h h1 h2 hm
  by_cases he : e = 0
  · subst he
    obtain ⟨hg1, hg2⟩ := gNum_shift B k x hk
    have Hg1 := Lib.hid hg1
    have Hg2 := Lib.hid hg2
    clear hg1 hg2
    by_cases hE : gErr (B.drop k).length 0 x = 0
    · have hx : 1 ≤ x ∧ x ≤ 8 ∧ k + x ≤ B.length := by rw [List.length_drop] at hE; unfold gErr at hE; split at hE <;> first | omega | (split at hE <;> omega)
      obtain ⟨x, rfl⟩ := Int.eq_ofNat_of_zero_le (show 0 ≤ x by omega)
      have hm' := Hm.out
      unfold maxLen at hm'
      have HE := Lib.hid hE
      have hE0 : (gErr B.length k x : Int) = 0 := by rw [Hg2.out, hE]; rfl
      clear hE
      go_enter Try.func42, Try.ntmps42
      go_wp2
      have q0 := fun w' (hk : KeepsBut [] w.drew w') => hk.cell (p := ⟨g, 0, none⟩) (v := .slice A B.length c) hc0 (by simp)
      have q1 := fun w' (hk : KeepsBut [] w.drew w') => hk.cell (p := ⟨g, 1, none⟩) (v := .int .i64 k) hc1 (by simp)
      refine wp_region_mix (KeepsBut []) (KeepsBut.refl []) (KeepsBut.trans []) [] [(true, 0), (true, 1), (true, 2), (true, 3), (true, 4), (true, 5), (true, 6), (true, 7), (true, 8), (false, 9), (true, 10), (true, 11), (true, 12), (true, 13), (true, 14)] (by kernel_rfl) (by kernel_rfl) (fun d _ _ _ _ h => by cases d <;> exact h) ?_
      repeat ((first | (refine mix_pure (v := ?_) rfl rfl ?_ (mix_norm (a' := ?_) ?_ ?_); rotate_left; focus (intro w' hR; go_simp; first | done | (with_reducible rfl))) | refine mix_off rfl rfl (mix_norm (a' := ?_) ?_ ?_)); rotate_left; focus (simp only [Act.put, List.getElem_toArray, List.getElem_cons_zero, List.getElem_cons_succ, List.setIfInBounds_toArray, List.set_cons_zero, List.set_cons_succ]; rfl))
      refine mix_eff rfl ?_
      simp only [List.getElem_toArray, List.getElem_cons_zero, List.getElem_cons_succ]
      go_wp2_with fail
      refine (refGet_any A B c k x _ H2.out.drew Hm.out).mono ?_
      rintro e w' ⟨rfl, rfl⟩
      go_wp2_with fail
      refine mixQ_normal (KeepsBut.refl _ _) rfl ?_
      clear q0 q1
      repeat ((first | (refine mix_pure (v := ?_) rfl rfl ?_ (mix_norm (a' := ?_) ?_ ?_); rotate_left; focus (intro w' hR; go_simp; first | done | (with_reducible rfl))) | refine mix_off rfl rfl (mix_norm (a' := ?_) ?_ ?_)); rotate_left; focus (simp only [Act.put, List.getElem_toArray, List.getElem_cons_zero, List.getElem_cons_succ, List.setIfInBounds_toArray, List.set_cons_zero, List.set_cons_succ]; rfl))
      refine mix_done ?_
      go_wp2
      go_ret
      have e1 := heap_setCell_same w g 2 _ _ (.int .i64 0) H1.out
      have e2 := heap_setCell_same _ g 1 _ _ (.int .i64 ((k : Int) + (x : Int))) e1
      refine ⟨?_, ⟨k + x, ⟨?_, (H2.out.far H1.out (by simp) 2 _).far e1 (by simp) 1 _, h3, Hm.out, by omega⟩, ?_⟩, grownBy_drew ((grownBy_at _ _ _ _).trans (grownBy_at _ _ _ _))⟩
      · unfold rNum; rw [if_pos rfl, ← Hg1.out]; rfl
      · unfold rNumE; rw [if_pos rfl, HE.out]; exact e2
      · unfold rNumL; rw [if_pos ⟨rfl, HE.out⟩, List.drop_drop, Int.toNat_natCast]
    · have HE := Lib.hid hE
      have hb : ((gErr B.length k x : Int) == 0) = false := by rw [Hg2.out, beq_eq_false_iff_ne]; omega
      clear hE
      go_enter Try.func42, Try.ntmps42
      go_wp2
      have q0 := fun w' (hk : KeepsBut [] w.drew w') => hk.cell (p := ⟨g, 0, none⟩) (v := .slice A B.length c) hc0 (by simp)
      have q1 := fun w' (hk : KeepsBut [] w.drew w') => hk.cell (p := ⟨g, 1, none⟩) (v := .int .i64 k) hc1 (by simp)
      refine wp_region_mix (KeepsBut []) (KeepsBut.refl []) (KeepsBut.trans []) [] [(true, 0), (true, 1), (true, 2), (true, 3), (true, 4), (true, 5), (true, 6), (true, 7), (true, 8), (false, 9), (true, 10), (true, 11), (true, 12), (true, 13), (true, 14)] (by kernel_rfl) (by kernel_rfl) (fun d _ _ _ _ h => by cases d <;> exact h) ?_
      repeat ((first | (refine mix_pure (v := ?_) rfl rfl ?_ (mix_norm (a' := ?_) ?_ ?_); rotate_left; focus (intro w' hR; go_simp; first | done | (with_reducible rfl))) | refine mix_off rfl rfl (mix_norm (a' := ?_) ?_ ?_)); rotate_left; focus (simp only [Act.put, List.getElem_toArray, List.getElem_cons_zero, List.getElem_cons_succ, List.setIfInBounds_toArray, List.set_cons_zero, List.set_cons_succ]; rfl))
      refine mix_eff rfl ?_
      simp only [List.getElem_toArray, List.getElem_cons_zero, List.getElem_cons_succ]
      go_wp2_with fail
      refine (refGet_any A B c k x _ H2.out.drew Hm.out).mono ?_
      rintro e w' ⟨rfl, rfl⟩
      go_wp2_with fail
      refine mixQ_normal (KeepsBut.refl _ _) rfl ?_
      clear q0 q1
      repeat ((first | (refine mix_pure (v := ?_) rfl rfl ?_ (mix_norm (a' := ?_) ?_ ?_); rotate_left; focus (intro w' hR; go_simp; first | done | (with_reducible rfl))) | refine mix_off rfl rfl (mix_norm (a' := ?_) ?_ ?_)); rotate_left; focus (simp only [Act.put, List.getElem_toArray, List.getElem_cons_zero, List.getElem_cons_succ, List.setIfInBounds_toArray, List.set_cons_zero, List.set_cons_succ]; rfl))
      refine mix_done ?_
      go_wp2
      go_ret
      have e1 := heap_setCell_same w g 2 _ _ (.int .i64 (gErr B.length k x : Nat)) H1.out
      refine ⟨?_, ⟨k, ⟨?_, H2.out.far H1.out (by simp) 2 _, h3, Hm.out, hk⟩, ?_⟩, grownBy_drew (grownBy_at _ _ _ _)⟩
      · unfold rNum; rw [if_pos rfl, ← Hg1.out]; rfl
      · unfold rNumE; rw [if_pos rfl, ← Hg2.out]; exact e1
      · unfold rNumL; rw [if_neg (fun h => HE.out h.2)]
  · have hb : ((e : Int) != 0) = true := by rw [bne_iff_ne]; omega
    have He := Lib.hid he
    clear he
    go_enter Try.func42, Try.ntmps42
    go_wp2
    go_ret
    refine ⟨?_, ⟨k, ?_, ?_⟩, World.grownBy.refl _ _⟩
    · unfold rNum; rw [if_neg He.out]; rfl
    · unfold rNumE; rw [if_neg He.out]; exact H.out
    · unfold rNumL; rw [if_neg (fun h => He.out h.1)]


/-! ### Bytes -/
theorem refBytes_err (g : Nat) (A : Option Addr) (c : Nat) (B : List UInt8) (k e : Nat) (he : e ≠ 0) (x : Int) (w : World) (h : IsS w g A c B k e) :
    Calls Try.prog 45 #[.pointer (some ⟨g, 0, none⟩), .int .i64 x] w fun r w' => r = .returned (.slice none 0 0) ∧ ∃ n, w' = w.drewN n := by
  obtain ⟨h1, h2, h3, hm, hk⟩ := id h
  have hc2 : w.cell? ⟨g, 2, none⟩ = some (.int .i64 e) := by rw [cell_of_row _ _ _ _ _ _ h1]; rfl
  have hb : ((e : Int) == 0) = false := by rw [beq_eq_false_iff_ne]; omega
  have hb2 : ((e : Int) != 0) = true := by rw [bne_iff_ne]; omega
  clear h h1 h2 he
  go_enter Try.func45, Try.ntmps45
  go_wp2
  go_quiet (fail)
  go_wp2
  go_ret
  exact ⟨rfl, _, rfl⟩

theorem refBytes_bad (g : Nat) (A : Option Addr) (c : Nat) (B : List UInt8) (k : Nat) (x : Int) (hx : x < 0 ∨ (B.length : Int) - k < x) (w : World) (h : IsS w g A c B k 0) :
    Calls Try.prog 45 #[.pointer (some ⟨g, 0, none⟩), .int .i64 x] w fun r w' => r = .returned (.slice none 0 0) ∧ IsS w' g A c B k (rBytesE (B.drop k) 0 x) ∧ w.grownBy w' (some g) := by
  obtain ⟨h1, h2, h3, hm, hk⟩ := id h
  have hc0 : w.cell? ⟨g, 0, none⟩ = some (.slice A B.length c) := by rw [cell_of_row _ _ _ _ _ _ h1]; rfl
  have hc1 : w.cell? ⟨g, 1, none⟩ = some (.int .i64 k) := by rw [cell_of_row _ _ _ _ _ _ h1]; rfl
  have hc2 : w.cell? ⟨g, 2, none⟩ = some (.int .i64 0) := by rw [cell_of_row _ _ _ _ _ _ h1]; rfl
  have hf2 : w.frozen? ⟨g, 2, none⟩ = false := frozen_of_row _ _ _ _ _ h1
  have Hm := Lib.hid hm
  have H1 := Lib.hid h1
  have H2 := Lib.hid h2
  unfold maxLen at hm
  clear h h1 h2
  by_cases hx0 : x < 0
  · clear hx
    have e1 := heap_setCell_same w g 2 _ _ (.int .i64 2) H1.out
    have Hfin : Hid (IsS (w.setCell ⟨g, 2, none⟩ (.int .i64 2)) g A c B k (rBytesE (B.drop k) 0 x)) := by
      rw [(rBytes_neg hx0).2.1]
      exact ⟨e1, H2.out.far H1.out (by simp) 2 _, h3, Hm.out, hk⟩
    clear e1
    go_enter Try.func45, Try.ntmps45
    go_wp2
    go_quiet (fail)
    go_wp2
    go_ret
    exact ⟨rfl, Hfin.out, grownBy_drewN (grownBy_at _ _ _ _) _⟩
  · have hxl : (B.length : Int) - (k : Int) < x := by omega
    clear hx
    have e1 := heap_setCell_same w g 2 _ _ (.int .i64 7) H1.out
    have Hfin : Hid (IsS (w.setCell ⟨g, 2, none⟩ (.int .i64 7)) g A c B k (rBytesE (B.drop k) 0 x)) := by
      rw [(rBytes_short (l := B.drop k) (x := x) (by rw [List.length_drop]; omega)).2.1]
      exact ⟨e1, H2.out.far H1.out (by simp) 2 _, h3, Hm.out, hk⟩
    clear e1
    go_enter Try.func45, Try.ntmps45
    go_wp2
    go_quiet (fail)
    go_wp2
    go_ret
    exact ⟨rfl, Hfin.out, (grownBy_drewN (World.grownBy.refl _ _) _).trans (grownBy_at _ _ _ _)⟩

theorem refBytes_ok (g : Nat) (A : Option Addr) (c : Nat) (B : List UInt8) (k x : Nat) (hx : k + x ≤ B.length) (w : World) (h : IsS w g A c B k 0) :
    Calls Try.prog 45 #[.pointer (some ⟨g, 0, none⟩), .int .i64 (x : Int)] w fun r w' => ∃ A1 c1, r = .returned (.slice A1 ((B.drop k).take x).length c1) ∧ (∀ W, Reads W 1 A B.length (bv B) → Reads W 1 A1 ((B.drop k).take x).length (bv ((B.drop k).take x))) ∧ IsS w' g A c B (k + x) 0 ∧ w.grownBy w' (some g) := by
  obtain ⟨h1, h2, h3, hm, hk⟩ := id h
  have hc0 : w.cell? ⟨g, 0, none⟩ = some (.slice A B.length c) := by rw [cell_of_row _ _ _ _ _ _ h1]; rfl
  have hc1 : w.cell? ⟨g, 1, none⟩ = some (.int .i64 k) := by rw [cell_of_row _ _ _ _ _ _ h1]; rfl
  have hc2 : w.cell? ⟨g, 2, none⟩ = some (.int .i64 0) := by rw [cell_of_row _ _ _ _ _ _ h1]; rfl
  have hf1 : w.frozen? ⟨g, 1, none⟩ = false := frozen_of_row _ _ _ _ _ h1
  have Hm := Lib.hid hm
  have H1 := Lib.hid h1
  have H2 := Lib.hid h2
  unfold maxLen at hm
  obtain ⟨A1, hcut, hA1⟩ := cutB_mid A c B k (k + x) (by omega) hx h3
  have ex : k + x - k = x := by omega
  rw [ex] at hcut hA1
  have hlx : ((B.drop k).take x).length = x := by simp; omega
  have e1 := heap_setCell_same w g 1 _ _ (.int .i64 ((k : Int) + (x : Int))) H1.out
  have Hfin : Hid (IsS (w.setCell ⟨g, 1, none⟩ (.int .i64 ((k : Int) + (x : Int)))) g A c B (k + x) 0) := ⟨e1, H2.out.far H1.out (by simp) 1 _, h3, Hm.out, hx⟩
  have HA1 := Lib.hid hA1
  have Hlx := Lib.hid hlx
  have hcut' : ∀ W : World, (Instr.slice 61 (.slice A B.length c) (some (.int .i64 (k : Int))) (some (.int .i64 ((k : Int) + (x : Int)))) none).run Try.prog W = .ok (.slice A1 x (c - k)) W := by
    intro W
    have := hcut W
    rwa [Int.natCast_add] at this
  clear h h1 h2 e1 hA1 hlx ex hcut
  go_enter Try.func45, Try.ntmps45
  go_wp2
  go_quiet (fail)
  go_wp2
  go_quiet (fail)
  go_wp2
  go_ret
  exact ⟨A1, c - k, by rw [Hlx.out]; rfl, HA1.out, Hfin.out, grownBy_drewN ((grownBy_drewN (World.grownBy.refl _ _) _).trans (grownBy_at _ _ _ _)) _⟩

/-- Whatever is asked. -/
theorem refBytes_any (g : Nat) (A : Option Addr) (c : Nat) (B : List UInt8) (k e : Nat) (x : Int) (w : World) (h : IsS w g A c B k e) :
    Calls Try.prog 45 #[.pointer (some ⟨g, 0, none⟩), .int .i64 x] w fun r w' => ∃ A1 c1, r = .returned (.slice A1 (rBytes (B.drop k) e x).length c1) ∧ (∀ W, Reads W 1 A B.length (bv B) → Reads W 1 A1 (rBytes (B.drop k) e x).length (bv (rBytes (B.drop k) e x))) ∧ (∃ k', IsS w' g A c B k' (rBytesE (B.drop k) e x) ∧ B.drop k' = rBytesL (B.drop k) e x) ∧ w.grownBy w' (some g) := by
  have hk : k ≤ B.length := h.2.2.2.2
  by_cases he : e = 0
  · subst he
    by_cases hx : x < 0 ∨ (B.length : Int) - k < x
    · have h1 : rBytes (B.drop k) 0 x = [] ∧ rBytesL (B.drop k) 0 x = B.drop k := by
        rcases hx with hx | hx
        · exact ⟨(rBytes_neg hx).1, (rBytes_neg hx).2.2⟩
        · have hs : ((B.drop k).length : Int) < x := by rw [List.length_drop]; omega
          exact ⟨(rBytes_short hs).1, (rBytes_short hs).2.2⟩
      rw [h1.1, h1.2]
      refine (refBytes_bad g A c B k x hx w h).mono ?_
      rintro r w' ⟨rfl, h2, h3⟩
      exact ⟨none, 0, rfl, fun W _ => Reads.nil _ _ _, ⟨k, h2, rfl⟩, h3⟩
    · obtain ⟨x, rfl⟩ := Int.eq_ofNat_of_zero_le (show 0 ≤ x by omega)
      have hx' : x ≤ (B.drop k).length := by rw [List.length_drop]; omega
      obtain ⟨h1, h2, h3⟩ := rBytes_ok hx'
      rw [h1, h2, h3]
      refine (refBytes_ok g A c B k x (by omega) w h).mono ?_
      rintro r w' ⟨A1, c1, rfl, h4, h5, h6⟩
      exact ⟨A1, c1, rfl, h4, ⟨k + x, h5, by rw [List.drop_drop]⟩, h6⟩
  · obtain ⟨h1, h2, h3⟩ := rBytes_err (l := B.drop k) (x := x) he
    rw [h1, h2, h3]
    refine (refBytes_err g A c B k e he x w h).mono ?_
    rintro r w' ⟨rfl, n, rfl⟩
    exact ⟨none, 0, rfl, fun W _ => Reads.nil _ _ _, ⟨k, h, rfl⟩, grownBy_drewN (World.grownBy.refl _ _) _⟩

/-- Each reader is kept while the other one reads. -/
theorem IsR.other {w w' : World} {g g2 : Nat} {l : List UInt8} {e : Nat} (h : IsR w g l e) (hk : w.grownBy w' (some g2)) (hne : g ≠ g2) (hA : ∀ cs t fr, w.heap[g2]? = some (.cells cs t fr) → ∀ b : UInt8, (.int .u8 (b.toNat : Int)) ∉ cs) (hc : ∃ cs t fr, w.heap[g2]? = some (.cells cs t fr)) : IsR w' g l e := by
  obtain ⟨A, c, h1, h2, h3, h4⟩ := h
  obtain ⟨cs, t, fr, hcs⟩ := hc
  exact ⟨A, c, (hk.block g (Array.getElem?_eq_some_iff.1 h1).1 (by simp; omega)).trans h1, h2.farG hcs (hA _ _ _ hcs) hk, h3, h4⟩
theorem IsR.keepS {w w' : World} {g g2 : Nat} {l : List UInt8} {e : Nat} {A : Option Addr} {c : Nat} {B : List UInt8} {k e2 : Nat} (h : IsR w g l e) (hs : IsS w g2 A c B k e2) (hk : w.grownBy w' (some g2)) (hne : g ≠ g2) : IsR w' g l e :=
  h.other hk hne (fun cs t fr hcs b hb => by rw [hs.1] at hcs; injection hcs with hcs; injection hcs with h1; subst h1; simp at hb) ⟨_, _, _, hs.1⟩
theorem IsS.keepR {w w' : World} {g g2 : Nat} {l : List UInt8} {e : Nat} {A : Option Addr} {c : Nat} {B : List UInt8} {k e2 : Nat} (hs : IsS w g2 A c B k e2) (h : IsR w g l e) (hk : w.grownBy w' (some g)) (hne : g ≠ g2) : IsS w' g2 A c B k e2 := by
  obtain ⟨A', c', h1, _⟩ := h
  exact ⟨(hk.block g2 hs.lt (by simp; omega)).trans hs.1, hs.2.1.farG h1 (by simp) hk, hs.2.2⟩

end Go.Proofs.Ytebcginnnjigjaa
