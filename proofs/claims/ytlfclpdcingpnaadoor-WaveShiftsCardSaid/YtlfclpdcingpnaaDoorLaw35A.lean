/- The walk of WaveShifts. -/
import Derived.Test.YtlfclpdcingpnaaDoorWaveKnown
import Derived.Test.YtlfclpdcingpnaaDoorWaveMath
import Derived.Test.YtlfclpdcingpnaaDoorMix3
open Go.RowKit
namespace Go.Proofs.YtlfclpdcingpnaaDoor

theorem cmul_is {x y u v : Nat} {a b c d : Int} (hx : IsI x a) (hy : IsI y b) (hu : IsI u c) (hv : IsI v d) (ha : a.natAbs ≤ 128) (hb : b.natAbs ≤ 128) (hc : c.natAbs ≤ 1) (hd : d.natAbs ≤ 1) :
    ∃ re im, cMulBits x y u v = some (re, im) ∧ IsI re (a * c - b * d) ∧ IsI im (a * d + b * c) := by
  have m (p q : Int) (hp : p.natAbs ≤ 128) (hq : q.natAbs ≤ 1) : (p * q).natAbs ≤ 128 := by
    rw [Int.natAbs_mul]; exact Nat.le_trans (Nat.mul_le_mul hp hq) (by omega)
  have m1 := m a c ha hc
  have m2 := m b d hb hd
  have m3 := m a d ha hd
  have m4 := m b c hb hc
  obtain ⟨ac, h1, i1⟩ := hx.mul hu (by omega)
  obtain ⟨bd, h2, i2⟩ := hy.mul hv (by omega)
  obtain ⟨re, h3, i3⟩ := i1.sub i2 (by omega)
  obtain ⟨ad, h4, i4⟩ := hx.mul hv (by omega)
  obtain ⟨bc, h5, i5⟩ := hy.mul hu (by omega)
  obtain ⟨im, h6, i6⟩ := i4.add i5 (by omega)
  exact ⟨re, im, by unfold cMulBits; simp only [h1, h2, h3, h4, h5, h6, Option.bind_some], i3, i6⟩

set_option maxHeartbeats 4000000 in
set_option maxRecDepth 100000 in
theorem waveShifts_any (A : Option Addr) (l : List Int) (c : Nat) (k : Int) (w : World) (hr : Reads w 1 A l.length (zv l)) (hT : TabAt 0 Lib.deBruijn64tab w) :
    Calls Tryd.prog 3 #[.slice A l.length c, .int .i64 k] w fun e w' => e = .returned (.bool true) ∧ Below w.heap.size w w' := by
  have Hr := Lib.hid hr
  have HT := Lib.hid hT
  clear hr hT
  by_cases hl : 128 < l.length
  · go_enter Tryd.func3, Tryd.ntmps3
    go_wp2_with (go_at_call 7; refine (known35_any _ (HT.out)).mono ?_; rintro e w9 ⟨rfl, hb9⟩)
    go_ret
    exact ⟨rfl, hb9⟩
  by_cases hk0 : k < 0
  · go_enter Tryd.func3, Tryd.ntmps3
    go_wp2_with (go_at_call 7; refine (known35_any _ (HT.out)).mono ?_; rintro e w9 ⟨rfl, hb9⟩)
    go_ret
    exact ⟨rfl, hb9⟩
  obtain ⟨k, rfl⟩ := Int.eq_ofNat_of_zero_le (show 0 ≤ k by omega)
  by_cases hk : 127 < k
  · go_enter Tryd.func3, Tryd.ntmps3
    go_wp2_with (go_at_call 7; refine (known35_any _ (HT.out)).mono ?_; rintro e w9 ⟨rfl, hb9⟩)
    go_ret
    exact ⟨rfl, hb9⟩
  clear hk0
  go_enter Tryd.func3, Tryd.ntmps3
  go_wp2_with fail
  refine (refOfNil_any w).mono ?_
  rintro e w1 ⟨rfl, hb1⟩
  have hg1 := heap_alloc_new w1 (.cells #[.int .u64 0, .int .u64 0] 26)
  have hs1 := size_alloc w1 (.cells #[.int .u64 0, .int .u64 0] 26)
  have hB1 := hb1.alloc hb1.size (.cells #[.int .u64 0, .int .u64 0] 26)
  go_wp2_with fail
  generalize w1.alloc (.cells #[.int .u64 0, .int .u64 0] 26) = w2 at hg1 hs1 hB1 ⊢
  have hg5w : w.heap.size ≤ w1.heap.size := hb1.size
  generalize w1.heap.size = g5 at hg1 hs1 hg5w ⊢
  clear hb1
  refine (refOfNil_any w2).mono ?_
  rintro e w3 ⟨rfl, hb3⟩
  have hg3 := (hb3.block g5 (by omega)).trans hg1
  have hs3 : g5 + 1 ≤ w3.heap.size := by have := hb3.size; omega
  have hB3 := hB1.trans (hb3.mono hB1.size)
  have hg4 := (heap_alloc_old w3 (.cells #[.int .u64 0, .int .u64 0] 26) (show g5 < w3.heap.size by omega)).trans hg3
  have hg7 := heap_alloc_new w3 (.cells #[.int .u64 0, .int .u64 0] 26)
  have hs4 := size_alloc w3 (.cells #[.int .u64 0, .int .u64 0] 26)
  have hB4 := hB3.alloc hB3.size (.cells #[.int .u64 0, .int .u64 0] 26)
  go_wp2_with fail
  generalize w3.alloc (.cells #[.int .u64 0, .int .u64 0] 26) = w4 at hg4 hg7 hs4 hB4 ⊢
  generalize w3.heap.size = g7 at hg7 hs4 hs3 ⊢
  have hne : g5 ≠ g7 := by omega
  have hg7w : w.heap.size ≤ g7 := by omega
  have HB4 := Lib.hid hB4
  have Hg4 := Lib.hid hg4
  have Hg7 := Lib.hid hg7
  have Hs4 : Hid (g5 < w4.heap.size ∧ g7 < w4.heap.size) := ⟨by omega, by omega⟩
  clear hb3 hg3 hs3 hB3 hg4 hg7 hs4 hB4 hg1 hs1 hB1
  go_loopw [9] (fun i wr => ∃ (n a0 a1 b0 b1 : Nat), n ≤ l.length ∧ i = .int .i64 n ∧ Hid ((a0 < 18446744073709551616 ∧ a1 < 18446744073709551616) ∧ b0 < 18446744073709551616 ∧ b1 < 18446744073709551616) ∧ Hid (Shifted k a0 a1 b0 b1) ∧ Hid (wr.heap[g5]? = some (.cells #[.int .u64 a0, .int .u64 a1] 26 (0, 0))) ∧ Hid (wr.heap[g7]? = some (.cells #[.int .u64 b0, .int .u64 b1] 26 (0, 0))) ∧ Hid (g5 < wr.heap.size ∧ g7 < wr.heap.size) ∧ Hid (Below w.heap.size w wr)) (fun i _ => l.length - (intOf i).toNat)
  case atStart => exact ⟨0, 0, 0, 0, 0, Nat.zero_le _, rfl, ⟨⟨by omega, by omega⟩, by omega, by omega⟩, Shifted.zero k, Hg4, Hg7, Hs4, HB4⟩
  case round =>
    clear Hg4 Hg7 Hs4 HB4
    obtain ⟨n, a0, a1, b0, b1, hn, rfl, Hlt, HS, H5, H7, Hs, Hb⟩ := hrel
    have HTr := Lib.hid (tab_below HT.out Hb.out (tab_lt HT.out))
    by_cases hnl : n < l.length
    · obtain ⟨ad, rfl, hcell⟩ := (Hr.out.below Hb.out).at_ (k := n) hnl (u := .int .i64 l[n]) (by simp [zv, hnl])
      have h1 := (Hr.out.at_ (k := n) hnl (u := .int .i64 l[n]) (by simp [zv, hnl]))
      have hbl : ad.block < w.heap.size := by
        obtain ⟨ad', he, hc'⟩ := h1
        injection he with he
        subst he
        have := World.block_lt_of_cell? _ _ hc'
        rwa [block_of_add] at this
      clear h1
      generalize l[n] = v at hcell
      by_cases hv0 : v < 0
      · go_wp2_with (go_at_call 7; refine (known35_any _ (HTr.out)).mono ?_; rintro e w9 ⟨rfl, hb9⟩)
        go_ret
        exact ⟨rfl, below_fresh Hb.out hb9⟩
      by_cases hv1 : 127 - (k : Int) < v
      · go_wp2_with (go_at_call 7; refine (known35_any _ (HTr.out)).mono ?_; rintro e w9 ⟨rfl, hb9⟩)
        go_ret
        exact ⟨rfl, below_fresh Hb.out hb9⟩
      obtain ⟨m, rfl⟩ := Int.eq_ofNat_of_zero_le (show 0 ≤ v by omega)
      have hmk : m + k < 128 := by omega
      clear hv0
      have c0 : wr.cell? ⟨g5, 0, none⟩ = some (.int .u64 a0) := by rw [cell_of_row _ _ _ _ _ _ H5.out]; rfl
      have c1 : wr.cell? ⟨g5, 1, none⟩ = some (.int .u64 a1) := by rw [cell_of_row _ _ _ _ _ _ H5.out]; rfl
      go_wp2_with fail
      have q0 := fun w' (hk : KeepsBut [] wr.drew w') => hk.cell (p := ⟨g5, 0, none⟩) (v := .int .u64 a0) c0 (by simp)
      have q1 := fun w' (hk : KeepsBut [] wr.drew w') => hk.cell (p := ⟨g5, 1, none⟩) (v := .int .u64 a1) c1 (by simp)
      have q2 := fun w' (hk : KeepsBut [] wr.drew w') => hk.cell (p := ad.add n) (v := .int .i64 m) hcell (by simp)
      refine wp_region_mix3 (KeepsBut []) (KeepsBut.refl []) (KeepsBut.trans []) [9] [(1, 0), (0, 1), (0, 2), (0, 3), (1, 4), (2, 5), (0, 6), (0, 7), (0, 8), (2, 9)] (by kernel_rfl) (by kernel_rfl) (fun d _ _ _ _ h => by cases d <;> exact h) ?_
      repeat (first
        | (refine mix3_free (v := ?_) rfl rfl ?_ (mix3_norm (a' := ?_) ?_ ?_)
           rotate_left
           focus (intro w'; go_simp; first | done | (with_reducible rfl))
           rotate_left
           focus (simp only [Act.put, List.getElem_toArray, List.getElem_cons_zero, List.getElem_cons_succ, List.setIfInBounds_toArray, List.set_cons_zero, List.set_cons_succ]; rfl))
        | (refine mix3_pure (v := ?_) rfl rfl ?_ (mix3_norm (a' := ?_) ?_ ?_)
           rotate_left
           focus (intro w' hR; go_simp; first | done | (with_reducible rfl))
           rotate_left
           focus (simp only [Act.put, List.getElem_toArray, List.getElem_cons_zero, List.getElem_cons_succ, List.setIfInBounds_toArray, List.set_cons_zero, List.set_cons_succ]; rfl))
        | (refine mix3_freeOff rfl rfl (mix3_norm (a' := ?_) ?_ ?_)
           rotate_left
           focus (simp only [Act.put, List.getElem_toArray, List.getElem_cons_zero, List.getElem_cons_succ, List.setIfInBounds_toArray, List.set_cons_zero, List.set_cons_succ]; rfl))
        | (refine mix3_off rfl rfl (mix3_norm (a' := ?_) ?_ ?_)
           rotate_left
           focus (simp only [Act.put, List.getElem_toArray, List.getElem_cons_zero, List.getElem_cons_succ, List.setIfInBounds_toArray, List.set_cons_zero, List.set_cons_succ]; rfl)))
      refine mix3_eff rfl ?_
      simp only [List.getElem_toArray, List.getElem_cons_zero, List.getElem_cons_succ]
      go_wp2_with fail
      refine (refWith_any a0 a1 m Hlt.out.1.1 Hlt.out.1.2 (by omega) wr.drew).mono ?_
      rintro e w5 ⟨rfl, hb5⟩
      have hza := sput_lt a0 a1 m Hlt.out.1.1 Hlt.out.1.2 (by omega)
      have HS1 := Lib.hid (HS.out.put k a0 a1 b0 b1 m hmk)
      generalize sput a0 a1 m = za at hza HS1 ⊢
      obtain ⟨za0, za1⟩ := za
      have Hza := Lib.hid hza
      go_wp2_with fail
      refine mixQ3_normal (KeepsBut.of_below hb5) rfl ?_
      clear q0 q1 q2 c0 c1 hza
      repeat (first
        | (refine mix3_free (v := ?_) rfl rfl ?_ (mix3_norm (a' := ?_) ?_ ?_)
           rotate_left
           focus (intro w'; go_simp; first | done | (with_reducible rfl))
           rotate_left
           focus (simp only [Act.put, List.getElem_toArray, List.getElem_cons_zero, List.getElem_cons_succ, List.setIfInBounds_toArray, List.set_cons_zero, List.set_cons_succ]; rfl))
        | (refine mix3_pure (v := ?_) rfl rfl ?_ (mix3_norm (a' := ?_) ?_ ?_)
           rotate_left
           focus (intro w' hR; go_simp; first | done | (with_reducible rfl))
           rotate_left
           focus (simp only [Act.put, List.getElem_toArray, List.getElem_cons_zero, List.getElem_cons_succ, List.setIfInBounds_toArray, List.set_cons_zero, List.set_cons_succ]; rfl))
        | (refine mix3_freeOff rfl rfl (mix3_norm (a' := ?_) ?_ ?_)
           rotate_left
           focus (simp only [Act.put, List.getElem_toArray, List.getElem_cons_zero, List.getElem_cons_succ, List.setIfInBounds_toArray, List.set_cons_zero, List.set_cons_succ]; rfl))
        | (refine mix3_off rfl rfl (mix3_norm (a' := ?_) ?_ ?_)
           rotate_left
           focus (simp only [Act.put, List.getElem_toArray, List.getElem_cons_zero, List.getElem_cons_succ, List.setIfInBounds_toArray, List.set_cons_zero, List.set_cons_succ]; rfl)))
      have h5 := (hb5.block g5 Hs.out.1).trans H5.out
      have h7 := (hb5.block g7 Hs.out.2).trans H7.out
      have hcell5 := (hb5.cell (p := ad.add n) (World.block_lt_of_cell? _ _ hcell)).trans hcell
      have c0 : w5.cell? ⟨g5, 0, none⟩ = some (.int .u64 a0) := by rw [cell_of_row _ _ _ _ _ _ h5]; rfl
      have c1 : w5.cell? ⟨g5, 1, none⟩ = some (.int .u64 a1) := by rw [cell_of_row _ _ _ _ _ _ h5]; rfl
      have f0 : w5.frozen? ⟨g5, 0, none⟩ = false := frozen_of_row _ _ _ _ _ h5
      have f1 : w5.frozen? ⟨g5, 1, none⟩ = false := frozen_of_row _ _ _ _ _ h5
      have hs5 : g5 < w5.heap.size ∧ g7 < w5.heap.size := ⟨Nat.lt_of_lt_of_le Hs.out.1 hb5.size, Nat.lt_of_lt_of_le Hs.out.2 hb5.size⟩
      have hB5 := Hb.out.drew.trans (hb5.mono (B' := w.heap.size) Hb.out.drew.size)
      clear hb5 hcell
      refine mix3_eff rfl ?_
      simp only [List.getElem_toArray, List.getElem_cons_zero, List.getElem_cons_succ]
      go_wp2_with fail
      refine mixQ3_last (by simp) rfl ?_
      refine mix3_done ?_
      have e0 := heap_setCell_same w5 g5 0 _ _ (.int .u64 za0) h5
      have h5' := heap_setCell_same _ g5 1 _ _ (.int .u64 za1) e0
      have h7' := (heap_setCell_other _ ⟨g5, 1, none⟩ g7 (.int .u64 za1) (Ne.symm hne)).trans ((heap_setCell_other w5 ⟨g5, 0, none⟩ g7 (.int .u64 za0) (Ne.symm hne)).trans h7)
      have hB6 := (hB5.setCell (p := ⟨g5, 0, none⟩) hg5w (.int .u64 za0)).setCell (p := ⟨g5, 1, none⟩) hg5w (.int .u64 za1)
      have hs6 : g5 < ((w5.setCell ⟨g5, 0, none⟩ (.int .u64 za0)).setCell ⟨g5, 1, none⟩ (.int .u64 za1)).heap.size ∧ g7 < ((w5.setCell ⟨g5, 0, none⟩ (.int .u64 za0)).setCell ⟨g5, 1, none⟩ (.int .u64 za1)).heap.size := by simp only [World.setCell, Array.size_modify]; exact hs5
      have hcell6 : ((w5.setCell ⟨g5, 0, none⟩ (.int .u64 za0)).setCell ⟨g5, 1, none⟩ (.int .u64 za1)).cell? (ad.add n) = some (.int .i64 m) := by
        have n1 (i : Nat) : ad.add n ≠ ⟨g5, i, none⟩ := fun e => by have := congrArg Addr.block e; rw [block_of_add] at this; simp at this; omega
        rw [World.cell?_setCell_other _ _ _ _ (Ne.symm (n1 1)), World.cell?_setCell_other _ _ _ _ (Ne.symm (n1 0))]; exact hcell5
      generalize (w5.setCell ⟨g5, 0, none⟩ (.int .u64 za0)).setCell ⟨g5, 1, none⟩ (.int .u64 za1) = w6 at h5' h7' hB6 hs6 hcell6 ⊢
      clear e0 c0 c1 f0 f1 h5 h7 hcell5 hs5 hB5
      have H56 := Lib.hid h5'
      have H76 := Lib.hid h7'
      have Hs6 := Lib.hid hs6
      have HB6 := Lib.hid hB6
      clear h5' h7' hs6 hB6
      have c0 : w6.cell? ⟨g7, 0, none⟩ = some (.int .u64 b0) := by rw [cell_of_row _ _ _ _ _ _ H76.out]; rfl
      have c1 : w6.cell? ⟨g7, 1, none⟩ = some (.int .u64 b1) := by rw [cell_of_row _ _ _ _ _ _ H76.out]; rfl
      go_wp2_with fail
      have q0 := fun w' (hk : KeepsBut [] w6.drew w') => hk.cell (p := ⟨g7, 0, none⟩) (v := .int .u64 b0) c0 (by simp)
      have q1 := fun w' (hk : KeepsBut [] w6.drew w') => hk.cell (p := ⟨g7, 1, none⟩) (v := .int .u64 b1) c1 (by simp)
      have q2 := fun w' (hk : KeepsBut [] w6.drew w') => hk.cell (p := ad.add n) (v := .int .i64 m) hcell6 (by simp)
      refine wp_region_mix3 (KeepsBut []) (KeepsBut.refl []) (KeepsBut.trans []) [11] [(1, 0), (0, 1), (0, 2), (0, 3), (1, 4), (0, 5), (0, 6), (2, 7), (0, 8), (0, 9), (0, 10), (2, 11)] (by kernel_rfl) (by kernel_rfl) (fun d _ _ _ _ h => by cases d <;> exact h) ?_
      repeat (first
        | (refine mix3_free (v := ?_) rfl rfl ?_ (mix3_norm (a' := ?_) ?_ ?_)
           rotate_left
           focus (intro w'; go_simp; first | done | (with_reducible rfl))
           rotate_left
           focus (simp only [Act.put, List.getElem_toArray, List.getElem_cons_zero, List.getElem_cons_succ, List.setIfInBounds_toArray, List.set_cons_zero, List.set_cons_succ]; rfl))
        | (refine mix3_pure (v := ?_) rfl rfl ?_ (mix3_norm (a' := ?_) ?_ ?_)
           rotate_left
           focus (intro w' hR; go_simp; first | done | (with_reducible rfl))
           rotate_left
           focus (simp only [Act.put, List.getElem_toArray, List.getElem_cons_zero, List.getElem_cons_succ, List.setIfInBounds_toArray, List.set_cons_zero, List.set_cons_succ]; rfl))
        | (refine mix3_freeOff rfl rfl (mix3_norm (a' := ?_) ?_ ?_)
           rotate_left
           focus (simp only [Act.put, List.getElem_toArray, List.getElem_cons_zero, List.getElem_cons_succ, List.setIfInBounds_toArray, List.set_cons_zero, List.set_cons_succ]; rfl))
        | (refine mix3_off rfl rfl (mix3_norm (a' := ?_) ?_ ?_)
           rotate_left
           focus (simp only [Act.put, List.getElem_toArray, List.getElem_cons_zero, List.getElem_cons_succ, List.setIfInBounds_toArray, List.set_cons_zero, List.set_cons_succ]; rfl)))
      refine mix3_eff rfl ?_
      simp only [List.getElem_toArray, List.getElem_cons_zero, List.getElem_cons_succ]
      go_wp2_with fail
      rw [show ((m : Int) + (k : Int)) = ((m + k : Nat) : Int) from (Int.natCast_add m k).symm]
      refine (refWith_any b0 b1 (m + k) Hlt.out.2.1 Hlt.out.2.2 hmk w6.drew).mono ?_
      rintro e w7 ⟨rfl, hb7⟩
      have hzb := sput_lt b0 b1 (m + k) Hlt.out.2.1 Hlt.out.2.2 hmk
      generalize sput b0 b1 (m + k) = zb at hzb HS1 ⊢
      obtain ⟨zb0, zb1⟩ := zb
      have Hzb := Lib.hid hzb
      go_wp2_with fail
      refine mixQ3_normal (KeepsBut.of_below hb7) rfl ?_
      clear q0 q1 q2 c0 c1 hzb
      repeat (first
        | (refine mix3_free (v := ?_) rfl rfl ?_ (mix3_norm (a' := ?_) ?_ ?_)
           rotate_left
           focus (intro w'; go_simp; first | done | (with_reducible rfl))
           rotate_left
           focus (simp only [Act.put, List.getElem_toArray, List.getElem_cons_zero, List.getElem_cons_succ, List.setIfInBounds_toArray, List.set_cons_zero, List.set_cons_succ]; rfl))
        | (refine mix3_pure (v := ?_) rfl rfl ?_ (mix3_norm (a' := ?_) ?_ ?_)
           rotate_left
           focus (intro w' hR; go_simp; first | done | (with_reducible rfl))
           rotate_left
           focus (simp only [Act.put, List.getElem_toArray, List.getElem_cons_zero, List.getElem_cons_succ, List.setIfInBounds_toArray, List.set_cons_zero, List.set_cons_succ]; rfl))
        | (refine mix3_freeOff rfl rfl (mix3_norm (a' := ?_) ?_ ?_)
           rotate_left
           focus (simp only [Act.put, List.getElem_toArray, List.getElem_cons_zero, List.getElem_cons_succ, List.setIfInBounds_toArray, List.set_cons_zero, List.set_cons_succ]; rfl))
        | (refine mix3_off rfl rfl (mix3_norm (a' := ?_) ?_ ?_)
           rotate_left
           focus (simp only [Act.put, List.getElem_toArray, List.getElem_cons_zero, List.getElem_cons_succ, List.setIfInBounds_toArray, List.set_cons_zero, List.set_cons_succ]; rfl)))
      have h5 := (hb7.block g5 Hs6.out.1).trans H56.out
      have h7 := (hb7.block g7 Hs6.out.2).trans H76.out
      have c0 : w7.cell? ⟨g7, 0, none⟩ = some (.int .u64 b0) := by rw [cell_of_row _ _ _ _ _ _ h7]; rfl
      have c1 : w7.cell? ⟨g7, 1, none⟩ = some (.int .u64 b1) := by rw [cell_of_row _ _ _ _ _ _ h7]; rfl
      have f0 : w7.frozen? ⟨g7, 0, none⟩ = false := frozen_of_row _ _ _ _ _ h7
      have f1 : w7.frozen? ⟨g7, 1, none⟩ = false := frozen_of_row _ _ _ _ _ h7
      have hs7 : g5 < w7.heap.size ∧ g7 < w7.heap.size := ⟨Nat.lt_of_lt_of_le Hs6.out.1 hb7.size, Nat.lt_of_lt_of_le Hs6.out.2 hb7.size⟩
      have hB7 := HB6.out.drew.trans (hb7.mono (B' := w.heap.size) HB6.out.drew.size)
      clear hb7 hcell6
      refine mix3_eff rfl ?_
      simp only [List.getElem_toArray, List.getElem_cons_zero, List.getElem_cons_succ]
      go_wp2_with fail
      refine mixQ3_last (by simp) rfl ?_
      refine mix3_done ?_
      have e0 := heap_setCell_same w7 g7 0 _ _ (.int .u64 zb0) h7
      have h7' := heap_setCell_same _ g7 1 _ _ (.int .u64 zb1) e0
      have h5' := (heap_setCell_other _ ⟨g7, 1, none⟩ g5 (.int .u64 zb1) hne).trans ((heap_setCell_other w7 ⟨g7, 0, none⟩ g5 (.int .u64 zb0) hne).trans h5)
      have hB8 := (hB7.setCell (p := ⟨g7, 0, none⟩) hg7w (.int .u64 zb0)).setCell (p := ⟨g7, 1, none⟩) hg7w (.int .u64 zb1)
      have hs8 : g5 < ((w7.setCell ⟨g7, 0, none⟩ (.int .u64 zb0)).setCell ⟨g7, 1, none⟩ (.int .u64 zb1)).heap.size ∧ g7 < ((w7.setCell ⟨g7, 0, none⟩ (.int .u64 zb0)).setCell ⟨g7, 1, none⟩ (.int .u64 zb1)).heap.size := by simp only [World.setCell, Array.size_modify]; exact hs7
      have H58 := Lib.hid h5'
      have H78 := Lib.hid h7'
      have Hs8 := Lib.hid hs8
      have HB8 := Lib.hid hB8
      clear e0 c0 c1 f0 f1 h5 h7 hs7 hB7 h5' h7' hB8 hs8
      go_wp2_with fail
      case roundEnd =>
        exact ⟨⟨n + 1, za0, za1, zb0, zb1, by omega, by push_cast; rfl, Lib.hid ⟨Hza.out, Hzb.out⟩, HS1, H58, H78, Hs8, HB8⟩, by simp only [intOf]; omega⟩
    · have Hlst := Lib.hid (lst_shift k a0 a1 b0 b1 (by omega) HS.out)
      have c0 : wr.cell? ⟨g5, 0, none⟩ = some (.int .u64 a0) := by rw [cell_of_row _ _ _ _ _ _ H5.out]; rfl
      have c1 : wr.cell? ⟨g5, 1, none⟩ = some (.int .u64 a1) := by rw [cell_of_row _ _ _ _ _ _ H5.out]; rfl
      have d0 : wr.cell? ⟨g7, 0, none⟩ = some (.int .u64 b0) := by rw [cell_of_row _ _ _ _ _ _ H7.out]; rfl
      have d1 : wr.cell? ⟨g7, 1, none⟩ = some (.int .u64 b1) := by rw [cell_of_row _ _ _ _ _ _ H7.out]; rfl
      go_wp2_with fail
      have q0 := fun w' (hk : KeepsBut [] wr.drew w') => hk.cell (p := ⟨g5, 0, none⟩) (v := .int .u64 a0) c0 (by simp)
      have q1 := fun w' (hk : KeepsBut [] wr.drew w') => hk.cell (p := ⟨g5, 1, none⟩) (v := .int .u64 a1) c1 (by simp)
      have q2 := fun w' (hk : KeepsBut [] wr.drew w') => hk.cell (p := ⟨g7, 0, none⟩) (v := .int .u64 b0) d0 (by simp)
      have q3 := fun w' (hk : KeepsBut [] wr.drew w') => hk.cell (p := ⟨g7, 1, none⟩) (v := .int .u64 b1) d1 (by simp)
      refine wp_region_mix3 (KeepsBut []) (KeepsBut.refl []) (KeepsBut.trans []) [] [(1, 0), (1, 2), (0, 4), (2, 1), (2, 3), (2, 5), (0, 6), (0, 7), (0, 8), (2, 9), (0, 10), (0, 11)] (by kernel_rfl) (by kernel_rfl) (fun d _ _ _ _ h => by cases d <;> exact h) ?_
      repeat (first
        | (refine mix3_free (v := ?_) rfl rfl ?_ (mix3_norm (a' := ?_) ?_ ?_)
           rotate_left
           focus (intro w'; go_simp; first | done | (with_reducible rfl))
           rotate_left
           focus (simp only [Act.put, List.getElem_toArray, List.getElem_cons_zero, List.getElem_cons_succ, List.setIfInBounds_toArray, List.set_cons_zero, List.set_cons_succ]; rfl))
        | (refine mix3_pure (v := ?_) rfl rfl ?_ (mix3_norm (a' := ?_) ?_ ?_)
           rotate_left
           focus (intro w' hR; go_simp; first | done | (with_reducible rfl))
           rotate_left
           focus (simp only [Act.put, List.getElem_toArray, List.getElem_cons_zero, List.getElem_cons_succ, List.setIfInBounds_toArray, List.set_cons_zero, List.set_cons_succ]; rfl))
        | (refine mix3_freeOff rfl rfl (mix3_norm (a' := ?_) ?_ ?_)
           rotate_left
           focus (simp only [Act.put, List.getElem_toArray, List.getElem_cons_zero, List.getElem_cons_succ, List.setIfInBounds_toArray, List.set_cons_zero, List.set_cons_succ]; rfl))
        | (refine mix3_off rfl rfl (mix3_norm (a' := ?_) ?_ ?_)
           rotate_left
           focus (simp only [Act.put, List.getElem_toArray, List.getElem_cons_zero, List.getElem_cons_succ, List.setIfInBounds_toArray, List.set_cons_zero, List.set_cons_succ]; rfl)))
      clear q0 q1 q2 q3 c0 c1 d0 d1
      refine mix3_eff rfl ?_
      simp only [List.getElem_toArray, List.getElem_cons_zero, List.getElem_cons_succ]
      go_wp2_with fail
      refine (mark_any b0 b1 Hlt.out.2.1 Hlt.out.2.2 wr.drew (by exact HTr.out)).mono ?_
      rintro e w5 ⟨xb, yb, rfl, hxb, hyb, hb5⟩
      have HT5 := Lib.hid (tab_below (w := wr.drew) HTr.out hb5 (tab_lt (w := wr.drew) HTr.out))
      have HB5 := Lib.hid (Hb.out.drew.trans (hb5.mono (B' := w.heap.size) Hb.out.drew.size))
      go_wp2_with fail
      refine mixQ3_normal (KeepsBut.of_below hb5) rfl ?_
      clear hb5
      refine mix3_eff rfl ?_
      simp only [List.getElem_toArray, List.getElem_cons_zero, List.getElem_cons_succ]
      go_wp2_with fail
      refine (mark_any a0 a1 Hlt.out.1.1 Hlt.out.1.2 w5 HT5.out).mono ?_
      rintro e w6 ⟨xa, ya, rfl, hxa, hya, hb6⟩
      have HT6 := Lib.hid (tab_below HT5.out hb6 (tab_lt HT5.out))
      have HB6 := Lib.hid (HB5.out.trans (hb6.mono (B' := w.heap.size) HB5.out.size))
      go_wp2_with fail
      refine mixQ3_normal (KeepsBut.of_below hb6) rfl ?_
      clear hb6
      refine mix3_eff rfl ?_
      simp only [List.getElem_toArray, List.getElem_cons_zero, List.getElem_cons_succ]
      go_wp2_with fail
      refine (turn_any k w6).mono ?_
      rintro e w7 ⟨rfl, hb7⟩
      have HT7 := Lib.hid (tab_below HT6.out hb7 (tab_lt HT6.out))
      have HB7 := Lib.hid (HB6.out.trans (hb7.mono (B' := w.heap.size) HB6.out.size))
      obtain ⟨t1, t2⟩ := turn_is k
      obtain ⟨u1, u2⟩ := turnZ_abs k
      obtain ⟨v1, v2⟩ := tre_abs (lst a0 a1)
      have hla := lst_len a0 a1
      rw [Hlst.out, (tre_shift k _).1] at hxb
      rw [Hlst.out, (tre_shift k _).2] at hyb
      generalize turnB k = tb at t1 t2 ⊢
      obtain ⟨tb0, tb1⟩ := tb
      obtain ⟨re, im, hmul, hre, him⟩ := cmul_is (x := xa) (y := ya) hxa hya t1 t2 (by omega) (by omega) u1 u2
      have qm := fun W : World => run_complex_mul (P := Tryd.prog) W 31 xa ya tb0 tb1 re im hmul
      have qe := eql_c xb yb re im
      rw [hxb.eq hre, hyb.eq him] at qe
      simp only [decide_true, Bool.and_self] at qe
      clear hmul hre him hxb hyb hxa hya t1 t2 u1 u2 v1 v2 hla
      go_wp2_with fail
      refine mixQ3_normal (KeepsBut.of_below hb7) rfl ?_
      clear hb7
      repeat (first
        | (refine mix3_free (v := ?_) rfl rfl ?_ (mix3_norm (a' := ?_) ?_ ?_)
           rotate_left
           focus (intro w'; go_simp; first | done | (with_reducible rfl))
           rotate_left
           focus (simp only [Act.put, List.getElem_toArray, List.getElem_cons_zero, List.getElem_cons_succ, List.setIfInBounds_toArray, List.set_cons_zero, List.set_cons_succ]; rfl))
        | (refine mix3_pure (v := ?_) rfl rfl ?_ (mix3_norm (a' := ?_) ?_ ?_)
           rotate_left
           focus (intro w' hR; go_simp; first | done | (with_reducible rfl))
           rotate_left
           focus (simp only [Act.put, List.getElem_toArray, List.getElem_cons_zero, List.getElem_cons_succ, List.setIfInBounds_toArray, List.set_cons_zero, List.set_cons_succ]; rfl))
        | (refine mix3_freeOff rfl rfl (mix3_norm (a' := ?_) ?_ ?_)
           rotate_left
           focus (simp only [Act.put, List.getElem_toArray, List.getElem_cons_zero, List.getElem_cons_succ, List.setIfInBounds_toArray, List.set_cons_zero, List.set_cons_succ]; rfl))
        | (refine mix3_off rfl rfl (mix3_norm (a' := ?_) ?_ ?_)
           rotate_left
           focus (simp only [Act.put, List.getElem_toArray, List.getElem_cons_zero, List.getElem_cons_succ, List.setIfInBounds_toArray, List.set_cons_zero, List.set_cons_succ]; rfl)))
      clear qm qe
      refine mix3_eff rfl ?_
      simp only [List.getElem_toArray, List.getElem_cons_zero, List.getElem_cons_succ]
      go_wp2_with fail
      refine (known35_any w7 HT7.out).mono ?_
      rintro e w8 ⟨rfl, hb8⟩
      go_wp2_with fail
      refine mixQ3_normal (KeepsBut.of_below hb8) rfl ?_
      repeat (first
        | (refine mix3_free (v := ?_) rfl rfl ?_ (mix3_norm (a' := ?_) ?_ ?_)
           rotate_left
           focus (intro w'; go_simp; first | done | (with_reducible rfl))
           rotate_left
           focus (simp only [Act.put, List.getElem_toArray, List.getElem_cons_zero, List.getElem_cons_succ, List.setIfInBounds_toArray, List.set_cons_zero, List.set_cons_succ]; rfl))
        | (refine mix3_pure (v := ?_) rfl rfl ?_ (mix3_norm (a' := ?_) ?_ ?_)
           rotate_left
           focus (intro w' hR; go_simp; first | done | (with_reducible rfl))
           rotate_left
           focus (simp only [Act.put, List.getElem_toArray, List.getElem_cons_zero, List.getElem_cons_succ, List.setIfInBounds_toArray, List.set_cons_zero, List.set_cons_succ]; rfl))
        | (refine mix3_freeOff rfl rfl (mix3_norm (a' := ?_) ?_ ?_)
           rotate_left
           focus (simp only [Act.put, List.getElem_toArray, List.getElem_cons_zero, List.getElem_cons_succ, List.setIfInBounds_toArray, List.set_cons_zero, List.set_cons_succ]; rfl))
        | (refine mix3_off rfl rfl (mix3_norm (a' := ?_) ?_ ?_)
           rotate_left
           focus (simp only [Act.put, List.getElem_toArray, List.getElem_cons_zero, List.getElem_cons_succ, List.setIfInBounds_toArray, List.set_cons_zero, List.set_cons_succ]; rfl)))
      refine mix3_done ?_
      go_wp2
      go_ret
      exact ⟨rfl, below_fresh HB7.out hb8⟩
end Go.Proofs.YtlfclpdcingpnaaDoor
