import Derived.Test.YtebcginnnjigjaaC29
import Derived.Test.YtebcginnnjigjaaC7
import Derived.Test.YtebcginnnjigjaaC36
import Derived.Test.YtebcginnnjigjaaC31
import Derived.Test.YtebcginnnjigjaaC30
section
/- Drawn numbers; the next power of two: walked. -/
open Go.RowKit
namespace Go.Proofs.Ytebcginnnjigjaa
set_option maxHeartbeats 4000000 in
set_option maxRecDepth 100000 in
theorem next_any (W : World) (s : Nat) (x : Int) (h : W.heap[s]? = some (.cells #[.int .u64 x] 147 (0, 0))) (hx : 0 ≤ x ∧ x < 18446744073709551616) :
    Calls Try.prog 96 #[.pointer (some ⟨s, 0, none⟩)] W fun r W' => ∃ y : Int, r = .returned (.int .u64 y) ∧ 0 ≤ y ∧ y < 18446744073709551616 ∧ W'.heap[s]? = some (.cells #[.int .u64 y] 147 (0, 0)) ∧ Chg (fun i => i = s) W W' := by
  have HC0 := Lib.hid (Chg.refl (fun i => i = s) W)
  have HG0 := Lib.hid h
  clear h
  go_enter Try.func96, Try.ntmps96
  go_wp2_with fail
  obtain ⟨c0, f0⟩ := cells1 HG0.out
  have p0 := fun w' (hk : KeepsBut [] W.drew w') => hk.cell (p := ⟨s, 0, none⟩) c0 (by simp)
  have f1 : W.drew.frozen? ⟨s, 0, none⟩ = false := f0
  have c1 : W.drew.cell? ⟨s, 0, none⟩ = some (.int .u64 x) := c0
  have HGd := Lib.hid (show W.drew.heap[s]? = some (.cells #[.int .u64 x] 147 (0, 0)) from HG0.out)
  have HCd := Lib.hid HC0.out.drew
  clear c0 f0
  refine wp_region_mix3 (KeepsBut []) (KeepsBut.refl []) (KeepsBut.trans []) [9] [(0, 0), (0, 1), (0, 3), (0, 4), (1, 2), (1, 5), (0, 6), (0, 7), (0, 8), (2, 9)] (by kernel_rfl) (by kernel_rfl) (fun d _ _ _ _ h => by cases d <;> exact h) ?_
  generalize W.drew = w1 at p0 f1 c1 HGd HCd ⊢
  repeat ((first | (refine mix3_free (v := ?_) rfl rfl ?_ (mix3_norm (a' := ?_) ?_ ?_); rotate_left; focus (intro w'; go_simp; first | done | (with_reducible rfl))) | (refine mix3_pure (v := ?_) rfl rfl ?_ (mix3_norm (a' := ?_) ?_ ?_); rotate_left; focus (intro w' hR; go_simp; first | done | (with_reducible rfl))) | refine mix3_freeOff rfl rfl (mix3_norm (a' := ?_) ?_ ?_) | refine mix3_off rfl rfl (mix3_norm (a' := ?_) ?_ ?_)); rotate_left; focus (simp only [Act.put, List.getElem_toArray, List.getElem_cons_zero, List.getElem_cons_succ, List.setIfInBounds_toArray, List.set_cons_zero, List.set_cons_succ]; rfl))
  clear p0
  obtain ⟨y1, hy1⟩ : ∃ y, bits BinOp.xor IntKind.u64 x (IntKind.u64.wrap (x * 8192)) = y := ⟨_, rfl⟩
  have ly1 := bits_lo_u64 BinOp.xor x (IntKind.u64.wrap (x * 8192))
  have uy1 := bits_hi_u64 BinOp.xor x (IntKind.u64.wrap (x * 8192))
  rw [hy1] at ly1 uy1 ⊢
  have HG1 := Lib.hid (heap_setCell_same w1 s 0 _ _ (.int .u64 y1) HGd.out)
  have HC1 := Lib.hid (HCd.out.set s 0 (.int .u64 y1) (fun _ => rfl))
  clear hy1
  refine mix3_eff rfl ?_
  simp only [List.getElem_toArray, List.getElem_cons_zero, List.getElem_cons_succ]
  go_wp2_with fail
  refine mixQ3_last (by simp) rfl ?_
  refine mix3_done ?_
  clear f1 c1
  generalize hww : w1.setCell ⟨s, 0, none⟩ (.int .u64 y1) = v1 at HG1 HC1 ⊢
  clear hww
  simp only [List.setIfInBounds_toArray, List.set_cons_zero] at HG1
  go_wp2_with fail
  obtain ⟨c0, f0⟩ := cells1 HG1.out
  have p0 := fun w' (hk : KeepsBut [] v1.drew w') => hk.cell (p := ⟨s, 0, none⟩) c0 (by simp)
  have f1 : v1.drew.frozen? ⟨s, 0, none⟩ = false := f0
  have c1 : v1.drew.cell? ⟨s, 0, none⟩ = some (.int .u64 y1) := c0
  have HGd := Lib.hid (show v1.drew.heap[s]? = some (.cells #[.int .u64 y1] 147 (0, 0)) from HG1.out)
  have HCd := Lib.hid HC1.out.drew
  clear c0 f0
  refine wp_region_mix3 (KeepsBut []) (KeepsBut.refl []) (KeepsBut.trans []) [9] [(0, 0), (0, 1), (0, 3), (0, 4), (1, 2), (1, 5), (0, 6), (0, 7), (0, 8), (2, 9)] (by kernel_rfl) (by kernel_rfl) (fun d _ _ _ _ h => by cases d <;> exact h) ?_
  generalize v1.drew = w2 at p0 f1 c1 HGd HCd ⊢
  repeat ((first | (refine mix3_free (v := ?_) rfl rfl ?_ (mix3_norm (a' := ?_) ?_ ?_); rotate_left; focus (intro w'; go_simp; first | done | (with_reducible rfl))) | (refine mix3_pure (v := ?_) rfl rfl ?_ (mix3_norm (a' := ?_) ?_ ?_); rotate_left; focus (intro w' hR; go_simp; first | done | (with_reducible rfl))) | refine mix3_freeOff rfl rfl (mix3_norm (a' := ?_) ?_ ?_) | refine mix3_off rfl rfl (mix3_norm (a' := ?_) ?_ ?_)); rotate_left; focus (simp only [Act.put, List.getElem_toArray, List.getElem_cons_zero, List.getElem_cons_succ, List.setIfInBounds_toArray, List.set_cons_zero, List.set_cons_succ]; rfl))
  clear p0
  obtain ⟨y2, hy2⟩ : ∃ y, bits BinOp.xor IntKind.u64 y1 (y1 / 128) = y := ⟨_, rfl⟩
  have ly2 := bits_lo_u64 BinOp.xor y1 (y1 / 128)
  have uy2 := bits_hi_u64 BinOp.xor y1 (y1 / 128)
  rw [hy2] at ly2 uy2 ⊢
  have HG2 := Lib.hid (heap_setCell_same w2 s 0 _ _ (.int .u64 y2) HGd.out)
  have HC2 := Lib.hid (HCd.out.set s 0 (.int .u64 y2) (fun _ => rfl))
  clear hy2
  refine mix3_eff rfl ?_
  simp only [List.getElem_toArray, List.getElem_cons_zero, List.getElem_cons_succ]
  go_wp2_with fail
  refine mixQ3_last (by simp) rfl ?_
  refine mix3_done ?_
  clear f1 c1
  generalize hww : w2.setCell ⟨s, 0, none⟩ (.int .u64 y2) = v2 at HG2 HC2 ⊢
  clear hww
  simp only [List.setIfInBounds_toArray, List.set_cons_zero] at HG2
  go_wp2_with fail
  obtain ⟨c0, f0⟩ := cells1 HG2.out
  have p0 := fun w' (hk : KeepsBut [] v2.drew w') => hk.cell (p := ⟨s, 0, none⟩) c0 (by simp)
  have f1 : v2.drew.frozen? ⟨s, 0, none⟩ = false := f0
  have c1 : v2.drew.cell? ⟨s, 0, none⟩ = some (.int .u64 y2) := c0
  have HGd := Lib.hid (show v2.drew.heap[s]? = some (.cells #[.int .u64 y2] 147 (0, 0)) from HG2.out)
  have HCd := Lib.hid HC2.out.drew
  clear c0 f0
  refine wp_region_mix3 (KeepsBut []) (KeepsBut.refl []) (KeepsBut.trans []) [9] [(0, 0), (0, 1), (0, 3), (0, 4), (1, 2), (1, 5), (0, 6), (0, 7), (0, 8), (2, 9)] (by kernel_rfl) (by kernel_rfl) (fun d _ _ _ _ h => by cases d <;> exact h) ?_
  generalize v2.drew = w3 at p0 f1 c1 HGd HCd ⊢
  repeat ((first | (refine mix3_free (v := ?_) rfl rfl ?_ (mix3_norm (a' := ?_) ?_ ?_); rotate_left; focus (intro w'; go_simp; first | done | (with_reducible rfl))) | (refine mix3_pure (v := ?_) rfl rfl ?_ (mix3_norm (a' := ?_) ?_ ?_); rotate_left; focus (intro w' hR; go_simp; first | done | (with_reducible rfl))) | refine mix3_freeOff rfl rfl (mix3_norm (a' := ?_) ?_ ?_) | refine mix3_off rfl rfl (mix3_norm (a' := ?_) ?_ ?_)); rotate_left; focus (simp only [Act.put, List.getElem_toArray, List.getElem_cons_zero, List.getElem_cons_succ, List.setIfInBounds_toArray, List.set_cons_zero, List.set_cons_succ]; rfl))
  clear p0
  obtain ⟨y3, hy3⟩ : ∃ y, bits BinOp.xor IntKind.u64 y2 (IntKind.u64.wrap (y2 * 131072)) = y := ⟨_, rfl⟩
  have ly3 := bits_lo_u64 BinOp.xor y2 (IntKind.u64.wrap (y2 * 131072))
  have uy3 := bits_hi_u64 BinOp.xor y2 (IntKind.u64.wrap (y2 * 131072))
  rw [hy3] at ly3 uy3 ⊢
  have HG3 := Lib.hid (heap_setCell_same w3 s 0 _ _ (.int .u64 y3) HGd.out)
  have HC3 := Lib.hid (HCd.out.set s 0 (.int .u64 y3) (fun _ => rfl))
  clear hy3
  refine mix3_eff rfl ?_
  simp only [List.getElem_toArray, List.getElem_cons_zero, List.getElem_cons_succ]
  go_wp2_with fail
  refine mixQ3_last (by simp) rfl ?_
  refine mix3_done ?_
  clear f1 c1
  generalize hww : w3.setCell ⟨s, 0, none⟩ (.int .u64 y3) = v3 at HG3 HC3 ⊢
  clear hww
  simp only [List.setIfInBounds_toArray, List.set_cons_zero] at HG3
  obtain ⟨c9, _⟩ := cells1 HG3.out
  go_wp2_with fail
  go_ret
  exact ⟨y3, rfl, ly3, by omega, HG3.out, HC3.out⟩
theorem len_small : ∀ n, n < 61 → 13 ≤ n → (Lib.bitLen n = 4 ∨ Lib.bitLen n = 5 ∨ Lib.bitLen n = 6) ∧ 2 ^ Lib.bitLen n ≤ 2 * n := by decide
set_option maxRecDepth 100000 in
theorem pow_any (W : World) (n : Nat) (h1 : 13 ≤ n) (h2 : n ≤ 60) : Calls Try.prog 95 #[.int .i64 (n : Nat)] W fun r W' => ∃ m : Nat, r = .returned (.int .u64 (m : Nat)) ∧ 1 ≤ m ∧ m ≤ 2 * n ∧ W = W' := by
  have HB := Lib.hid (bitsLen_any n W (by omega))
  obtain ⟨h4, h5⟩ := len_small n (by omega) h1
  generalize Lib.bitLen n = nb at HB h4 h5
  have hn0 : (n : Int) ≤ 1000 := by omega
  go_enter Try.func95, Try.ntmps95
  go_wp2_with fail
  refine HB.out.mono ?_
  rintro r w1 ⟨rfl, rfl⟩
  rcases h4 with rfl | rfl | rfl
  · rw [show ((4 : Nat) : Int) = 4 from rfl]
    go_wp2_with fail
    go_ret
    exact ⟨16, rfl, by omega, by omega, rfl⟩
  · rw [show ((5 : Nat) : Int) = 5 from rfl]
    go_wp2_with fail
    go_ret
    exact ⟨32, rfl, by omega, by omega, rfl⟩
  · rw [show ((6 : Nat) : Int) = 6 from rfl]
    go_wp2_with fail
    go_ret
    exact ⟨64, rfl, by omega, by omega, rfl⟩
end Go.Proofs.Ytebcginnnjigjaa

end
section
/- Patterns are broken: walked. -/
open Go.RowKit
namespace Go.Proofs.Ytebcginnnjigjaa
/-- What may be left of a part of a row: its places among themselves. -/
def PrmOut (W W' : World) (b c : Nat) (d : Array Int) (a e : Nat) : Prop := ∃ d', Sort.PermIn a e d d' ∧ ARow W' b c d' ∧ Chg (fun k => k = b) W W'
/-- Between two draws. -/
structure BrI (W : World) (b c s : Nat) (d : Array Int) (a e : Nat) (d1 : Array Int) (y : Int) (w : World) : Prop where
  p : Sort.PermIn a e d d1
  r : ARow w b c d1
  g : w.heap[s]? = some (.cells #[.int .u64 y] 147 (0, 0))
  c : Chg (fun k => k = b) W w
  y0 : 0 ≤ y ∧ y < 18446744073709551616
theorem and_small (y : Int) (hy : 0 ≤ y ∧ y < 18446744073709551616) (m : Nat) (hm : m ≤ 1000) : ∃ o : Nat, bits BinOp.and .u64 y (m : Int) = (o : Int) ∧ o ≤ m := by
  obtain ⟨n, rfl⟩ : ∃ n : Nat, y = (n : Int) := ⟨y.toNat, by omega⟩
  refine ⟨n &&& m, ?_, Nat.and_le_right⟩
  exact bits_and_u64_nat n m (by omega) (by omega)
set_option maxHeartbeats 4000000 in
set_option maxRecDepth 100000 in
theorem break_any (W : World) (b c : Nat) (d : Array Int) (a e : Nat) (h : ARow W b c d) (hae : a + 12 < e) (he : e ≤ d.size) (hn : d.size ≤ 60) :
    Calls Try.prog 84 #[.slice (some ⟨b, 0, none⟩) d.size c, .int .i64 (a : Nat), .int .i64 (e : Nat)] W fun r W' => r = .returned (.tuple #[]) ∧ PrmOut W W' b c d a e := by
  obtain ⟨n, hnd⟩ : ∃ n, n = d.size := ⟨_, rfl⟩
  rw [← hnd] at he hn ⊢
  have Hnd := Lib.hid hnd
  obtain ⟨l, hl⟩ : ∃ l : Nat, (e : Int) - (a : Int) = (l : Int) := ⟨e - a, by omega⟩
  obtain ⟨q, hq0⟩ : ∃ q, l / 4 = q := ⟨_, rfl⟩
  have hq : (l : Int) / 4 = (q : Int) := by omega
  obtain ⟨j, hj0⟩ : ∃ j, a + q * 2 = j := ⟨_, rfl⟩
  have hj : (a : Int) + (q : Int) * 2 = (j : Int) := by omega
  obtain ⟨i0, hi0⟩ : ∃ i0, j = i0 + 1 := ⟨j - 1, by omega⟩
  have Hi0 := Lib.hid hi0
  have hji : (j : Int) - 1 = (i0 : Int) := by omega
  have hl8 : 8 ≤ (l : Int) := by omega
  have hl1 : l ≤ 60 := by omega
  have hj1 : j ≤ 200 := by omega
  have hq1 : q ≤ 250 := by omega
  have HIn := Lib.hid (show a + l ≤ n ∧ a ≤ i0 ∧ i0 + 2 < a + l ∧ e = a + l from by omega)
  obtain ⟨hb, hg, hs⟩ := alloc1 W #[.int .u64 (l : Int)] 147
  have HI := Lib.hid (show BrI W b c W.heap.size d a e d (l : Int) (W.alloc (.cells #[.int .u64 (l : Int)] 147)) from ⟨Sort.permIn_refl _ _ _, h.below hb, hg, .of_below hb, by omega⟩)
  have HNe := Lib.hid (show b < W.heap.size ∧ W.heap.size ≤ W.heap.size from ⟨h.lt, Nat.le_refl _⟩)
  have HP := Lib.hid (fun w => pow_any w l (by omega) hl1)
  clear hi0 hb hg hs h hnd hj0 hq0
  go_enter Try.func84, Try.ntmps84
  go_wp2_with fail
  generalize W.alloc (.cells #[.int .u64 (l : Int)] 147) = w1 at HI ⊢
  refine (HP.out _).mono ?_
  rintro r w2 ⟨m, rfl, hm1, hm2, rfl⟩
  clear HP
  go_wp2_with fail
  obtain ⟨s, hs0⟩ : ∃ s, W.heap.size = s := ⟨_, rfl⟩
  have HNe := Lib.hid (show b < s ∧ W.heap.size ≤ s from by rw [← hs0]; exact HNe.out)
  rw [hs0] at HI ⊢
  clear hs0
  obtain ⟨m0, hm0⟩ : ∃ m0, m = m0 + 1 := ⟨m - 1, by omega⟩
  have hmm : (m : Int) - 1 = (m0 : Int) := by omega
  have hmw : IntKind.u64.wrap ((m : Int) - 1) = (m0 : Int) := by rw [hmm, IntKind.wrap_u64]; omega
  have hm2l : m0 < 2 * l := by omega
  clear hm0
  go_loopw [9] (fun v wr => ∃ (i : Nat) (d1 : Array Int) (y : Int), i0 ≤ i ∧ i ≤ i0 + 3 ∧ v = .int .i64 i ∧ Hid (BrI W b c s d a e d1 y wr)) (fun v _ => (((i0 : Int) + 3) - intOf v).toNat)
  case atStart => exact ⟨i0, d, l, Nat.le_refl _, by omega, rfl, HI⟩
  case round =>
    clear HI
    obtain ⟨i, d1, y, hi1, hi2, rfl, HI⟩ := hrel
    by_cases hle : i ≤ i0 + 2
    · have hlei : (i : Int) ≤ (j : Int) + 1 := by have := Hi0.out; omega
      have HNx := Lib.hid (next_any wr s y HI.out.g HI.out.y0)
      have hi200 : i ≤ 200 := by have := Hi0.out; omega
      go_wp2_with fail
      refine HNx.out.mono ?_
      rintro r w2 ⟨y2, rfl, hy1, hy2, hg2, hc2⟩
      have HI2 := Lib.hid (show BrI W b c s d a e d1 y2 w2 from ⟨HI.out.p, HI.out.r.chg hc2 (by have := HNe.out.1; omega), hg2, HI.out.c.trans hc2 (fun k hk e => by have := HNe.out.2; omega), ⟨hy1, hy2⟩⟩)
      obtain ⟨o, ho1, ho2⟩ := and_small y2 ⟨hy1, hy2⟩ m0 (by omega)
      clear hy1 hy2 hg2 hc2 HI HNx
      by_cases hol : l ≤ o
      · obtain ⟨o2, ho3⟩ : ∃ o2 : Nat, (o : Int) - (l : Int) = (o2 : Int) := ⟨o - l, by omega⟩
        have ho4 : o2 < l := by omega
        have ho5 : o ≤ 1000 := by omega
        go_wp2_with fail
        clear ho3 hol
        obtain ⟨p, hp⟩ : ∃ p, p = a + o2 := ⟨_, rfl⟩
        have hin : (i : Int) < (n : Int) := by have := HIn.out; omega
        have hpn : (p : Int) < (n : Int) := by have := HIn.out; omega
        have hwp : IntKind.i64.wrap ((a : Int) + (o2 : Int)) = (p : Int) := by rw [IntWalk.i64_in ((a : Int) + (o2 : Int)) ⟨by omega, by omega⟩]; omega
        have hsz : d1.size = n := by rw [HI2.out.p.1]; exact Hnd.out.symm
        have his : i < d1.size := by omega
        have hps : p < d1.size := by omega
        have s0 := HI2.out.r.cell his
        have t0 := HI2.out.r.cell hps
        have Hsw := Lib.hid (fun W' (h : ARow W' b c d1) => h.swp i p)
        have HPm := Lib.hid (show Sort.PermIn a e d (Sort.swp d1 i p) from Sort.permIn_trans _ _ _ _ _ HI2.out.p (Sort.swp_permIn d1 a e i p (by have := HIn.out; omega) (by have := HIn.out; omega) (by omega) (by have := HIn.out; omega) (by omega)))
        generalize Sort.swp d1 i p = d2 at Hsw HPm
        obtain ⟨x, hx⟩ : ∃ x, d1[i]! = x := ⟨_, rfl⟩
        obtain ⟨z, hz⟩ : ∃ z, d1[p]! = z := ⟨_, rfl⟩
        rw [hx] at s0 Hsw
        rw [hz] at t0 Hsw
        have p0 := fun w' (hk : KeepsBut [] w2.drew w') => hk.cell (p := ⟨b, i, none⟩) s0 (by simp)
        have p1 := fun w' (hk : KeepsBut [] w2.drew w') => hk.cell (p := ⟨b, p, none⟩) t0 (by simp)
        have HA := HI2.out.r.drew
        have hCC := chg_swp w2.drew b i p (.int .u64 z) (.int .u64 x)
        have HB := Lib.hid (show BrI W b c s d a e d2 y2 ((w2.drew.setCell ⟨b, i, none⟩ (.int .u64 z)).setCell ⟨b, p, none⟩ (.int .u64 x)) from ⟨HPm.out, Hsw.out _ HA, (hCC.block s (show s < w2.heap.size from (Array.getElem?_eq_some_iff.1 HI2.out.g).1) (by have := HNe.out.1; omega)).trans HI2.out.g, HI2.out.c.drew.trans hCC (fun _ _ h => h), HI2.out.y0⟩)
        have f0 := HA.frozen i
        have f1 := (HA.set i z).frozen p
        have c0 : w2.drew.cell? ⟨b, i, none⟩ = some (.int .u64 x) := s0
        obtain ⟨u1, c1⟩ : ∃ u1, (w2.drew.setCell ⟨b, i, none⟩ (.int .u64 z)).cell? ⟨b, p, none⟩ = some u1 := ⟨_, (HA.set i z).cell (by rw [Array.size_setIfInBounds]; exact hps)⟩
        clear s0 t0 HA hx hz hp hsz hCC HI2
        refine wp_region_mix3 (KeepsBut []) (KeepsBut.refl []) (KeepsBut.trans []) [17, 19] [(0, 0), (0, 1), (0, 2), (0, 3), (0, 4), (0, 5), (0, 6), (0, 7), (0, 8), (0, 9), (0, 10), (0, 12), (0, 13), (0, 14), (1, 11), (1, 15), (0, 16), (2, 17), (0, 18), (2, 19)] (by kernel_rfl) (by kernel_rfl) (fun d _ _ _ _ h => by cases d <;> exact h) ?_
        generalize w2.drew = w3 at p0 p1 HB f0 f1 c0 c1 ⊢
        repeat ((first | (refine mix3_free (v := ?_) rfl rfl ?_ (mix3_norm (a' := ?_) ?_ ?_); rotate_left; focus (intro w'; go_simp; first | done | (with_reducible rfl))) | (refine mix3_pure (v := ?_) rfl rfl ?_ (mix3_norm (a' := ?_) ?_ ?_); rotate_left; focus (intro w' hR; go_simp; first | done | (with_reducible rfl))) | refine mix3_freeOff rfl rfl (mix3_norm (a' := ?_) ?_ ?_) | refine mix3_off rfl rfl (mix3_norm (a' := ?_) ?_ ?_)); rotate_left; focus (simp only [Act.put, List.getElem_toArray, List.getElem_cons_zero, List.getElem_cons_succ, List.setIfInBounds_toArray, List.set_cons_zero, List.set_cons_succ]; rfl))
        refine mix3_eff rfl ?_
        simp only [List.getElem_toArray, List.getElem_cons_zero, List.getElem_cons_succ]
        go_wp2_with fail
        refine mixQ3_last (by simp) rfl ?_
        repeat ((first | (refine mix3_free (v := ?_) rfl rfl ?_ (mix3_norm (a' := ?_) ?_ ?_); rotate_left; focus (intro w'; go_simp; first | done | (with_reducible rfl))) | (refine mix3_pure (v := ?_) rfl rfl ?_ (mix3_norm (a' := ?_) ?_ ?_); rotate_left; focus (intro w' hR; go_simp; first | done | (with_reducible rfl))) | refine mix3_freeOff rfl rfl (mix3_norm (a' := ?_) ?_ ?_) | refine mix3_off rfl rfl (mix3_norm (a' := ?_) ?_ ?_)); rotate_left; focus (simp only [Act.put, List.getElem_toArray, List.getElem_cons_zero, List.getElem_cons_succ, List.setIfInBounds_toArray, List.set_cons_zero, List.set_cons_succ]; rfl))
        refine mix3_eff rfl ?_
        simp only [List.getElem_toArray, List.getElem_cons_zero, List.getElem_cons_succ]
        go_wp2_with fail
        refine mixQ3_last (by simp) rfl ?_
        refine mix3_done ?_
        clear p0 p1 f0 f1 c0 c1
        go_wp2_with fail
        case roundEnd =>
          exact ⟨⟨i + 1, d2, y2, by omega, by omega, by push_cast; rfl, HB⟩, by simp only [intOf]; omega⟩
      · have ho5 : o ≤ 1000 := by omega
        have ho4 : o < l := by omega
        go_wp2_with fail
        clear hol ho2 ho1
        obtain ⟨o2, ho6⟩ : ∃ o2, o2 = o := ⟨_, rfl⟩
        subst ho6
        obtain ⟨p, hp⟩ : ∃ p, p = a + o2 := ⟨_, rfl⟩
        have hin : (i : Int) < (n : Int) := by have := HIn.out; omega
        have hpn : (p : Int) < (n : Int) := by have := HIn.out; omega
        have hwp : IntKind.i64.wrap ((a : Int) + (o2 : Int)) = (p : Int) := by rw [IntWalk.i64_in ((a : Int) + (o2 : Int)) ⟨by omega, by omega⟩]; omega
        have hsz : d1.size = n := by rw [HI2.out.p.1]; exact Hnd.out.symm
        have his : i < d1.size := by omega
        have hps : p < d1.size := by omega
        have s0 := HI2.out.r.cell his
        have t0 := HI2.out.r.cell hps
        have Hsw := Lib.hid (fun W' (h : ARow W' b c d1) => h.swp i p)
        have HPm := Lib.hid (show Sort.PermIn a e d (Sort.swp d1 i p) from Sort.permIn_trans _ _ _ _ _ HI2.out.p (Sort.swp_permIn d1 a e i p (by have := HIn.out; omega) (by have := HIn.out; omega) (by omega) (by have := HIn.out; omega) (by omega)))
        generalize Sort.swp d1 i p = d2 at Hsw HPm
        obtain ⟨x, hx⟩ : ∃ x, d1[i]! = x := ⟨_, rfl⟩
        obtain ⟨z, hz⟩ : ∃ z, d1[p]! = z := ⟨_, rfl⟩
        rw [hx] at s0 Hsw
        rw [hz] at t0 Hsw
        have p0 := fun w' (hk : KeepsBut [] w2.drew w') => hk.cell (p := ⟨b, i, none⟩) s0 (by simp)
        have p1 := fun w' (hk : KeepsBut [] w2.drew w') => hk.cell (p := ⟨b, p, none⟩) t0 (by simp)
        have HA := HI2.out.r.drew
        have hCC := chg_swp w2.drew b i p (.int .u64 z) (.int .u64 x)
        have HB := Lib.hid (show BrI W b c s d a e d2 y2 ((w2.drew.setCell ⟨b, i, none⟩ (.int .u64 z)).setCell ⟨b, p, none⟩ (.int .u64 x)) from ⟨HPm.out, Hsw.out _ HA, (hCC.block s (show s < w2.heap.size from (Array.getElem?_eq_some_iff.1 HI2.out.g).1) (by have := HNe.out.1; omega)).trans HI2.out.g, HI2.out.c.drew.trans hCC (fun _ _ h => h), HI2.out.y0⟩)
        have f0 := HA.frozen i
        have f1 := (HA.set i z).frozen p
        have c0 : w2.drew.cell? ⟨b, i, none⟩ = some (.int .u64 x) := s0
        obtain ⟨u1, c1⟩ : ∃ u1, (w2.drew.setCell ⟨b, i, none⟩ (.int .u64 z)).cell? ⟨b, p, none⟩ = some u1 := ⟨_, (HA.set i z).cell (by rw [Array.size_setIfInBounds]; exact hps)⟩
        clear s0 t0 HA hx hz hp hsz hCC HI2
        refine wp_region_mix3 (KeepsBut []) (KeepsBut.refl []) (KeepsBut.trans []) [17, 19] [(0, 0), (0, 1), (0, 2), (0, 3), (0, 4), (0, 5), (0, 6), (0, 7), (0, 8), (0, 9), (0, 10), (0, 12), (0, 13), (0, 14), (1, 11), (1, 15), (0, 16), (2, 17), (0, 18), (2, 19)] (by kernel_rfl) (by kernel_rfl) (fun d _ _ _ _ h => by cases d <;> exact h) ?_
        generalize w2.drew = w3 at p0 p1 HB f0 f1 c0 c1 ⊢
        repeat ((first | (refine mix3_free (v := ?_) rfl rfl ?_ (mix3_norm (a' := ?_) ?_ ?_); rotate_left; focus (intro w'; go_simp; first | done | (with_reducible rfl))) | (refine mix3_pure (v := ?_) rfl rfl ?_ (mix3_norm (a' := ?_) ?_ ?_); rotate_left; focus (intro w' hR; go_simp; first | done | (with_reducible rfl))) | refine mix3_freeOff rfl rfl (mix3_norm (a' := ?_) ?_ ?_) | refine mix3_off rfl rfl (mix3_norm (a' := ?_) ?_ ?_)); rotate_left; focus (simp only [Act.put, List.getElem_toArray, List.getElem_cons_zero, List.getElem_cons_succ, List.setIfInBounds_toArray, List.set_cons_zero, List.set_cons_succ]; rfl))
        refine mix3_eff rfl ?_
        simp only [List.getElem_toArray, List.getElem_cons_zero, List.getElem_cons_succ]
        go_wp2_with fail
        refine mixQ3_last (by simp) rfl ?_
        repeat ((first | (refine mix3_free (v := ?_) rfl rfl ?_ (mix3_norm (a' := ?_) ?_ ?_); rotate_left; focus (intro w'; go_simp; first | done | (with_reducible rfl))) | (refine mix3_pure (v := ?_) rfl rfl ?_ (mix3_norm (a' := ?_) ?_ ?_); rotate_left; focus (intro w' hR; go_simp; first | done | (with_reducible rfl))) | refine mix3_freeOff rfl rfl (mix3_norm (a' := ?_) ?_ ?_) | refine mix3_off rfl rfl (mix3_norm (a' := ?_) ?_ ?_)); rotate_left; focus (simp only [Act.put, List.getElem_toArray, List.getElem_cons_zero, List.getElem_cons_succ, List.setIfInBounds_toArray, List.set_cons_zero, List.set_cons_succ]; rfl))
        refine mix3_eff rfl ?_
        simp only [List.getElem_toArray, List.getElem_cons_zero, List.getElem_cons_succ]
        go_wp2_with fail
        refine mixQ3_last (by simp) rfl ?_
        refine mix3_done ?_
        clear p0 p1 f0 f1 c0 c1
        go_wp2_with fail
        case roundEnd =>
          exact ⟨⟨i + 1, d2, y2, by omega, by omega, by push_cast; rfl, HB⟩, by simp only [intOf]; omega⟩
    · have hlei : ¬ (i : Int) ≤ (j : Int) + 1 := by have := Hi0.out; omega
      go_wp2_with fail
      go_end0
      exact ⟨rfl, d1, HI.out.p, HI.out.r, HI.out.c⟩
end Go.Proofs.Ytebcginnnjigjaa

end
section
/- The quick sort's state: the plain part. -/
open Go.RowKit
namespace Go.Proofs.Ytebcginnnjigjaa
/-- The part is sorted. -/
def PdDone (W W' : World) (b c : Nat) (d : Array Int) (a e : Nat) : Prop := ∃ d', Sort.PermIn a e d d' ∧ Sort.SortedIn Sort.ltInt a e d' ∧ ARow W' b c d' ∧ Chg (fun k => k = b) W W'
/-- What is left to sort: the part from a2 to e2 of the row d2. -/
structure PdI (W w : World) (b c : Nat) (d : Array Int) (a e a2 e2 : Nat) (d2 : Array Int) : Prop where
  row : ARow w b c d2
  chg : Chg (fun k => k = b) W w
  sz : d2.size = d.size
  bel : Sort.Below Sort.ltInt a2 e2 d2
  le : a2 ≤ e2
  he : e2 ≤ d.size
  fin : ∀ R, Sort.PermIn a2 e2 d2 R → Sort.SortedIn Sort.ltInt a2 e2 R → Sort.PermIn a e d R ∧ Sort.SortedIn Sort.ltInt a e R
section
variable {W w w1 : World} {b c : Nat} {d d2 d3 d4 : Array Int} {a e a2 e2 p mid : Nat}
theorem PdI.start (h : ARow W b c d) (hB : Sort.Below Sort.ltInt a e d) (hae : a ≤ e) (he : e ≤ d.size) : PdI W W b c d a e a e d :=
  ⟨h, Chg.refl _ _, rfl, hB, hae, he, fun _ h1 h2 => ⟨h1, h2⟩⟩
theorem PdI.perm (h : PdI W w b c d a e a2 e2 d2) (hp : Sort.PermIn a2 e2 d2 d3) (hr : ARow w1 b c d3) (hc : Chg (fun k => k = b) w w1) : PdI W w1 b c d a e a2 e2 d3 :=
  ⟨hr, h.chg.trans hc (fun _ _ x => x), hp.1.trans h.sz, h.bel.perm (by rw [h.sz]; exact h.he) hp, h.le, h.he, fun R h1 h2 => h.fin R (Sort.permIn_trans _ _ _ _ _ hp h1) h2⟩
theorem PdI.done (h : PdI W w b c d a e a2 e2 d2) (hp : Sort.PermIn a2 e2 d2 d3) (hs : Sort.SortedIn Sort.ltInt a2 e2 d3) (hr : ARow w1 b c d3) (hc : Chg (fun k => k = b) w w1) : PdDone W w1 b c d a e :=
  ⟨d3, (h.fin d3 hp hs).1, (h.fin d3 hp hs).2, hr, h.chg.trans hc (fun _ _ x => x)⟩
theorem PdI.quiet (h : PdI W w b c d a e a2 e2 d2) (hb : Below w.heap.size w w1) : PdI W w1 b c d a e a2 e2 d2 :=
  h.perm (Sort.permIn_refl _ _ _) (h.row.below hb) (Chg.of_below hb)
theorem PdI.drew (h : PdI W w b c d a e a2 e2 d2) : PdI W w.drew b c d a e a2 e2 d2 := h.quiet (Below.refl _ _).drew
theorem PdI.ins (h : PdI W w b c d a e a2 e2 d2) (ho : SrtOut w w1 b c (Sort.insertionSort Sort.ltInt d2 a2 e2)) : PdDone W w1 b c d a e := by
  obtain ⟨h1, h2⟩ := Sort.insertionSort_holds Sort.swo_ltInt d2 a2 e2 h.le (by rw [h.sz]; exact h.he)
  exact h.done h1 h2 ho.1 ho.2
theorem PdI.heap (h : PdI W w b c d a e a2 e2 d2) (ho : SrtOut w w1 b c (Sort.heapSort Sort.ltInt d2 a2 e2)) : PdDone W w1 b c d a e := by
  obtain ⟨h1, h2⟩ := Sort.heapSort_holds Sort.swo_ltInt d2 a2 e2 h.le (by rw [h.sz]; exact h.he)
  exact h.done h1 h2 ho.1 ho.2
theorem PdI.brk (h : PdI W w b c d a e a2 e2 d2) (ho : PrmOut w w1 b c d2 a2 e2) : ∃ d3, PdI W w1 b c d a e a2 e2 d3 := by
  obtain ⟨d3, h1, h2, h3⟩ := ho
  exact ⟨d3, h.perm h1 h2 h3⟩
theorem PdI.rev (h : PdI W w b c d a e a2 e2 d2) (ho : SrtOut w w1 b c (Sort.reverseRange d2 a2 e2)) : PdI W w1 b c d a e a2 e2 (Sort.reverseRange d2 a2 e2) :=
  h.perm (Sort.reverseRange_holds d2 a2 e2 h.le (by rw [h.sz]; exact h.he)) ho.1 ho.2
theorem PdI.parT (h : PdI W w b c d a e a2 e2 d2) (hlt : a2 < e2) (ho : SrtOut w w1 b c (Sort.partialInsertionSort Sort.ltInt d2 a2 e2).1) (ht : (Sort.partialInsertionSort Sort.ltInt d2 a2 e2).2 = true) : PdDone W w1 b c d a e := by
  obtain ⟨h1, h2⟩ := Sort.partialInsertionSort_holds Sort.swo_ltInt d2 a2 e2 hlt (by rw [h.sz]; exact h.he) h.bel
  exact h.done h1 (h2 ht) ho.1 ho.2
theorem PdI.parF (h : PdI W w b c d a e a2 e2 d2) (hlt : a2 < e2) (ho : SrtOut w w1 b c (Sort.partialInsertionSort Sort.ltInt d2 a2 e2).1) : PdI W w1 b c d a e a2 e2 (Sort.partialInsertionSort Sort.ltInt d2 a2 e2).1 :=
  h.perm (Sort.partialInsertionSort_holds Sort.swo_ltInt d2 a2 e2 hlt (by rw [h.sz]; exact h.he) h.bel).1 ho.1 ho.2
theorem PdI.equal (h : PdI W w b c d a e a2 e2 d2) (ha : 0 < a2) (h1 : a2 ≤ p) (h2 : p < e2) (hnl : Sort.ltInt d2[a2 - 1]! d2[p]! = false) (ho : SrtOut w w1 b c (Sort.partitionEqual Sort.ltInt d2 a2 e2 p).2) :
    ∃ mid d4, (Sort.partitionEqual Sort.ltInt d2 a2 e2 p).1 = mid ∧ a2 < mid ∧ mid ≤ e2 ∧ PdI W w1 b c d a e mid e2 d4 := by
  obtain ⟨g1, g2, g3, g4, g5⟩ := Sort.round_eq Sort.swo_ltInt (Sort.partitionEqual_holds _) ha h1 h2 (by rw [h.sz]; exact h.he) h.bel hnl (show Sort.partitionEqual Sort.ltInt d2 a2 e2 p = ((Sort.partitionEqual Sort.ltInt d2 a2 e2 p).1, (Sort.partitionEqual Sort.ltInt d2 a2 e2 p).2) from rfl)
  exact ⟨_, _, rfl, g1, g2, ho.1, h.chg.trans ho.2 (fun _ _ x => x), g3.trans h.sz, g4, g2, h.he, fun R r1 r2 => h.fin R (g5 R r1 r2).1 (g5 R r1 r2).2⟩
theorem PdI.parts (h : PdI W w b c d a e a2 e2 d2) (h1 : a2 ≤ p) (h2 : p < e2) (ho : SrtOut w w1 b c (Sort.partition Sort.ltInt d2 a2 e2 p).2.2) :
    ∃ mid d4, (Sort.partition Sort.ltInt d2 a2 e2 p).1 = mid ∧ a2 ≤ mid ∧ mid < e2 ∧ d4.size = d.size ∧ ARow w1 b c d4 ∧ Sort.Below Sort.ltInt a2 mid d4 ∧ Sort.Below Sort.ltInt (mid + 1) e2 d4 ∧
      (∀ w2, PdDone w1 w2 b c d4 a2 mid → ∃ d5, PdI W w2 b c d a e (mid + 1) e2 d5) ∧ (∀ w2, PdDone w1 w2 b c d4 (mid + 1) e2 → ∃ d5, PdI W w2 b c d a e a2 mid d5) := by
  obtain ⟨g1, g2, g3, g4, g5, g6, g7⟩ := Sort.round_part Sort.swo_ltInt (Sort.partition_holds _) h1 h2 (by rw [h.sz]; exact h.he) h.bel (show Sort.partition Sort.ltInt d2 a2 e2 p = ((Sort.partition Sort.ltInt d2 a2 e2 p).1, (Sort.partition Sort.ltInt d2 a2 e2 p).2.1, (Sort.partition Sort.ltInt d2 a2 e2 p).2.2) from rfl)
  refine ⟨_, _, rfl, g1, g2, g3.trans h.sz, ho.1, g4, g5, ?_, ?_⟩
  · rintro w2 ⟨L, l1, l2, l3, l4⟩
    obtain ⟨k1, k2⟩ := g6 L l1 l2
    exact ⟨L, l3, (h.chg.trans ho.2 (fun _ _ x => x)).trans l4 (fun _ _ x => x), l1.1.trans (g3.trans h.sz), k1, by omega, h.he, fun R r1 r2 => h.fin R (k2 R r1 r2).1 (k2 R r1 r2).2⟩
  · rintro w2 ⟨L, l1, l2, l3, l4⟩
    obtain ⟨k1, k2⟩ := g7 L l1 l2
    have := h.he
    exact ⟨L, l3, (h.chg.trans ho.2 (fun _ _ x => x)).trans l4 (fun _ _ x => x), l1.1.trans (g3.trans h.sz), k1, g1, by omega, fun R r1 r2 => h.fin R (k2 R r1 r2).1 (k2 R r1 r2).2⟩
end
end Go.Proofs.Ytebcginnnjigjaa

end
section
/- The quick sort: walked. -/
open Go.RowKit
namespace Go.Proofs.Ytebcginnnjigjaa
set_option maxHeartbeats 16000000 in
set_option maxRecDepth 100000 in
theorem pdq_any (b c : Nat) : ∀ (N : Nat) (W : World) (d : Array Int) (a e m : Nat), e - a < N → ARow W b c d → Sort.Below Sort.ltInt a e d → a ≤ e → e ≤ d.size → d.size ≤ 60 → m ≤ 64 →
    Calls Try.prog 75 #[.slice (some ⟨b, 0, none⟩) d.size c, .int .i64 (a : Nat), .int .i64 (e : Nat), .int .i64 (m : Nat)] W fun r W' => r = .returned (.tuple #[]) ∧ PdDone W W' b c d a e := by
  intro N
  induction N with
  | zero => intro W d a e m h; exact absurd h (Nat.not_lt_zero _)
  | succ N ih =>
    intro W d a e m hN h hB hae he hn hm
    have IH := Lib.hid ih
    have H0 := Lib.hid (PdI.start h hB hae he)
    obtain ⟨n, hnd⟩ : ∃ n, d.size = n := ⟨_, rfl⟩
    rw [hnd] at he hn ⊢
    have Hs := Lib.hid hnd
    clear ih h hB hnd
    go_enter Try.func75, Try.ntmps75
    go_wp2_with fail
    go_loopw [1, 2, 3, 8, 9] (fun v1 v2 v3 v8 v9 wr => ∃ (a2 e2 m2 : Nat) (wb wp : Bool) (d2 : Array Int), a ≤ a2 ∧ a2 ≤ e2 ∧ e2 ≤ e ∧ m2 ≤ 64 ∧ v1 = .int .i64 a2 ∧ v2 = .int .i64 e2 ∧ v3 = .int .i64 m2 ∧ v8 = .bool wb ∧ v9 = .bool wp ∧ Hid (PdI W wr b c d a e a2 e2 d2)) (fun v1 v2 _ _ _ _ => (intOf v2 - intOf v1).toNat)
    case atStart => exact ⟨a, e, m, true, true, d, Nat.le_refl _, hae, Nat.le_refl _, hm, rfl, rfl, rfl, rfl, rfl, H0⟩
    case round =>
      clear H0
      obtain ⟨a2, e2, m2, wb, wp, d2, ha2, hae2, he2, hm2, rfl, rfl, rfl, rfl, rfl, HI⟩ := hrel
      obtain ⟨wo, hwo⟩ : ∃ wo : World, wo = wr := ⟨_, rfl⟩
      subst hwo
      obtain ⟨l, hl0⟩ : ∃ l : Nat, (e2 : Int) - (a2 : Int) = (l : Int) := ⟨e2 - a2, by omega⟩
      have hl60 : l ≤ 60 := by omega
      refine wp_block ?_
      apply wp_seq_k
      intro K1 hK1
      have HK1 := Lib.hid hK1
      clear hK1
      go_wp2_with fail
      refine HK1.out _ _ ?_
      clear HK1
      apply wp_seq_k
      intro K2 hK2
      have HK2 := Lib.hid hK2
      clear hK2
      by_cases h12 : l ≤ 12
      · have h12i : (l : Int) ≤ 12 := by omega
        have HC := Lib.hid (insertion_any wo b c d2 a2 e2 HI.out.row (by rw [HI.out.sz, Hs.out]; omega) (by rw [HI.out.sz, Hs.out]; omega) (by omega))
        rw [HI.out.sz, Hs.out] at HC
        go_wp2_with fail
        refine HC.out.mono ?_
        rintro r w3 ⟨rfl, h3⟩
        have HF := Lib.hid (HI.out.ins h3)
        clear h3 HC HI
        go_wp2_with fail
        try simp only [Exit.inBlock, Exit.then]
        refine bodyPost_ret (results_none rfl _ _ _) rfl ?_
        exact ⟨rfl, HF.out⟩
      · have h12i : ¬ (l : Int) ≤ 12 := by omega
        have h12a : a2 + 12 < e2 := by omega
        go_wp2_with fail
        refine HK2.out _ _ ?_
        clear HK2
        apply wp_seq_k
        intro K3 hK3
        have HK3 := Lib.hid hK3
        clear hK3
        by_cases hm0 : m2 = 0
        · subst hm0
          rw [show ((0 : Nat) : Int) = 0 from rfl]
          have HC := Lib.hid (heap_any wo b c d2 a2 e2 HI.out.row (by omega) (by rw [HI.out.sz, Hs.out]; omega) (by rw [HI.out.sz, Hs.out]; omega))
          rw [HI.out.sz, Hs.out] at HC
          go_wp2_with fail
          refine HC.out.mono ?_
          rintro r w3 ⟨rfl, h3⟩
          have HF := Lib.hid (HI.out.heap h3)
          clear h3 HC HI
          go_wp2_with fail
          try simp only [Exit.inBlock, Exit.then]
          refine bodyPost_ret (results_none rfl _ _ _) rfl ?_
          exact ⟨rfl, HF.out⟩
        · obtain ⟨m3, hm3⟩ : ∃ m3, m2 = m3 + 1 := ⟨m2 - 1, by omega⟩
          have hmz : ((m2 : Int) == 0) = false := by rw [beq_eq_false_iff_ne]; omega
          have hmw : (m2 : Int) - 1 = (m3 : Int) := by omega
          have hm60 : m3 ≤ 64 := by omega
          clear hm0 hm3
          go_wp2_with fail
          refine HK3.out _ _ ?_
          clear HK3
          apply wp_seq_k
          intro K4 hK4
          have HK4 := Lib.hid hK4
          clear hK4
          have HJ4 : Hid (∀ (mm : Nat) (u11 u12 u13 u14 u15 u16 u17 u18 u19 u20 u21 u22 u23 u24 u25 u26 u27 u28 u29 u30 u31 u32 u33 u34 u35 u36 u37 u38 u39 u40 u41 u42 u43 u44 u45 u46 u47 u48 u49 u50 u51 u52 u53 u54 u55 u56 u57 u58 u59 u60 u61 u62 u63 u64 u65 u66 u67 u68 u69 u70 u71 u72 u73 u74 u75 u76 u77 u78 u79 u80 u81 u82 u83 u84 u85 u86 u87 u88 u89 u90 u91 u92 u93 u94 u95 u96 u97 u98 u99 u100 u101 u102 u103 u104 u105 u106 u107 u108 u109 u110 u111 u112 u113 u114 u115 u116 u117 u118 u119 u120 u121 u122 u123 u124 u125 u126 u127 u128 u129 u130 u131 u132 u133 : Value) (w3 : World) (d3 : Array Int), mm ≤ 64 → PdI W w3 b c d a e a2 e2 d3 → K4 ({ tmps := #[.slice (some ⟨b, 0, none⟩) n c, .int .i64 (a2 : Nat), .int .i64 (e2 : Nat), .int .i64 (mm : Nat), undef, undef, undef, undef, .bool wb, .bool wp, .int .i64 (l : Nat), u11, u12, u13, u14, u15, u16, u17, u18, u19, u20, u21, u22, u23, u24, u25, u26, u27, u28, u29, u30, u31, u32, u33, u34, u35, u36, u37, u38, u39, u40, u41, u42, u43, u44, u45, u46, u47, u48, u49, u50, u51, u52, u53, u54, u55, u56, u57, u58, u59, u60, u61, u62, u63, u64, u65, u66, u67, u68, u69, u70, u71, u72, u73, u74, u75, u76, u77, u78, u79, u80, u81, u82, u83, u84, u85, u86, u87, u88, u89, u90, u91, u92, u93, u94, u95, u96, u97, u98, u99, u100, u101, u102, u103, u104, u105, u106, u107, u108, u109, u110, u111, u112, u113, u114, u115, u116, u117, u118, u119, u120, u121, u122, u123, u124, u125, u126, u127, u128, u129, u130, u131, u132, u133], defers := [] } : Act) w3) := by
            refine Lib.hid ?_
            intro mm u11 u12 u13 u14 u15 u16 u17 u18 u19 u20 u21 u22 u23 u24 u25 u26 u27 u28 u29 u30 u31 u32 u33 u34 u35 u36 u37 u38 u39 u40 u41 u42 u43 u44 u45 u46 u47 u48 u49 u50 u51 u52 u53 u54 u55 u56 u57 u58 u59 u60 u61 u62 u63 u64 u65 u66 u67 u68 u69 u70 u71 u72 u73 u74 u75 u76 u77 u78 u79 u80 u81 u82 u83 u84 u85 u86 u87 u88 u89 u90 u91 u92 u93 u94 u95 u96 u97 u98 u99 u100 u101 u102 u103 u104 u105 u106 u107 u108 u109 u110 u111 u112 u113 u114 u115 u116 u117 u118 u119 u120 u121 u122 u123 u124 u125 u126 u127 u128 u129 u130 u131 u132 u133 w3 d3 hmm h0
            have HI3 := Lib.hid h0
            clear h0
            refine HK4.out _ _ ?_
            clear HK4 HI hmz hmw hm60
            apply wp_seq_k
            intro K5 hK5
            have HK5 := Lib.hid hK5
            clear hK5
            have HJ5 : Hid (∀ (pz : Nat) (hv : Int) (u13 u14 u15 u16 u17 u18 u19 u20 u21 u22 u23 u24 u25 u26 u27 u28 u29 u30 u31 u32 u33 u34 u35 u36 u37 u38 u39 u40 u41 u42 u43 u44 u45 u46 u47 u48 u49 u50 u51 u52 u53 u54 u55 u56 u57 u58 u59 u60 u61 u62 u63 u64 u65 u66 u67 u68 u69 u70 u71 u72 u73 u74 u75 u76 u77 u78 u79 u80 u81 u82 u83 u84 u85 u86 u87 u88 u89 u90 u91 u92 u93 u94 u95 u96 u97 u98 u99 u100 u101 u102 u103 u104 u105 u106 u107 u108 u109 u110 u111 u112 u113 u114 u115 u116 u117 u118 u119 u120 u121 u122 u123 u124 u125 u126 u127 u128 u129 u130 u131 u132 u133 : Value) (w4 : World) (d4 : Array Int), (hv = 0 ∨ hv = 1 ∨ hv = 2) → a2 ≤ pz → pz < e2 → PdI W w4 b c d a e a2 e2 d4 → K5 ({ tmps := #[.slice (some ⟨b, 0, none⟩) n c, .int .i64 (a2 : Nat), .int .i64 (e2 : Nat), .int .i64 (mm : Nat), undef, undef, undef, undef, .bool wb, .bool wp, .int .i64 (l : Nat), .int .i64 (pz : Nat), .int .i64 hv, u13, u14, u15, u16, u17, u18, u19, u20, u21, u22, u23, u24, u25, u26, u27, u28, u29, u30, u31, u32, u33, u34, u35, u36, u37, u38, u39, u40, u41, u42, u43, u44, u45, u46, u47, u48, u49, u50, u51, u52, u53, u54, u55, u56, u57, u58, u59, u60, u61, u62, u63, u64, u65, u66, u67, u68, u69, u70, u71, u72, u73, u74, u75, u76, u77, u78, u79, u80, u81, u82, u83, u84, u85, u86, u87, u88, u89, u90, u91, u92, u93, u94, u95, u96, u97, u98, u99, u100, u101, u102, u103, u104, u105, u106, u107, u108, u109, u110, u111, u112, u113, u114, u115, u116, u117, u118, u119, u120, u121, u122, u123, u124, u125, u126, u127, u128, u129, u130, u131, u132, u133], defers := [] } : Act) w4) := by
              refine Lib.hid ?_
              intro pz hv u13 u14 u15 u16 u17 u18 u19 u20 u21 u22 u23 u24 u25 u26 u27 u28 u29 u30 u31 u32 u33 u34 u35 u36 u37 u38 u39 u40 u41 u42 u43 u44 u45 u46 u47 u48 u49 u50 u51 u52 u53 u54 u55 u56 u57 u58 u59 u60 u61 u62 u63 u64 u65 u66 u67 u68 u69 u70 u71 u72 u73 u74 u75 u76 u77 u78 u79 u80 u81 u82 u83 u84 u85 u86 u87 u88 u89 u90 u91 u92 u93 u94 u95 u96 u97 u98 u99 u100 u101 u102 u103 u104 u105 u106 u107 u108 u109 u110 u111 u112 u113 u114 u115 u116 u117 u118 u119 u120 u121 u122 u123 u124 u125 u126 u127 u128 u129 u130 u131 u132 u133 w4 d4 hv3 hp1 hp2 h0
              have HI4 := Lib.hid h0
              clear h0
              refine HK5.out _ _ ?_
              clear HK5 HI3
              apply wp_seq_k
              intro K6 hK6
              have HK6 := Lib.hid hK6
              clear hK6
              have HJ6 : Hid (∀ (pz : Nat) (hv : Int) (u13 u14 u15 u16 u17 u18 u19 u20 u21 u22 u23 u24 u25 u26 u27 u28 u29 u30 u31 u32 u33 u34 u35 u36 u37 u38 u39 u40 u41 u42 u43 u44 u45 u46 u47 u48 u49 u50 u51 u52 u53 u54 u55 u56 u57 u58 u59 u60 u61 u62 u63 u64 u65 u66 u67 u68 u69 u70 u71 u72 u73 u74 u75 u76 u77 u78 u79 u80 u81 u82 u83 u84 u85 u86 u87 u88 u89 u90 u91 u92 u93 u94 u95 u96 u97 u98 u99 u100 u101 u102 u103 u104 u105 u106 u107 u108 u109 u110 u111 u112 u113 u114 u115 u116 u117 u118 u119 u120 u121 u122 u123 u124 u125 u126 u127 u128 u129 u130 u131 u132 u133 : Value) (w6 : World) (d6 : Array Int), a2 ≤ pz → pz < e2 → PdI W w6 b c d a e a2 e2 d6 → K6 ({ tmps := #[.slice (some ⟨b, 0, none⟩) n c, .int .i64 (a2 : Nat), .int .i64 (e2 : Nat), .int .i64 (mm : Nat), undef, undef, undef, undef, .bool wb, .bool wp, .int .i64 (l : Nat), .int .i64 (pz : Nat), .int .i64 hv, u13, u14, u15, u16, u17, u18, u19, u20, u21, u22, u23, u24, u25, u26, u27, u28, u29, u30, u31, u32, u33, u34, u35, u36, u37, u38, u39, u40, u41, u42, u43, u44, u45, u46, u47, u48, u49, u50, u51, u52, u53, u54, u55, u56, u57, u58, u59, u60, u61, u62, u63, u64, u65, u66, u67, u68, u69, u70, u71, u72, u73, u74, u75, u76, u77, u78, u79, u80, u81, u82, u83, u84, u85, u86, u87, u88, u89, u90, u91, u92, u93, u94, u95, u96, u97, u98, u99, u100, u101, u102, u103, u104, u105, u106, u107, u108, u109, u110, u111, u112, u113, u114, u115, u116, u117, u118, u119, u120, u121, u122, u123, u124, u125, u126, u127, u128, u129, u130, u131, u132, u133], defers := [] } : Act) w6) := by
                refine Lib.hid ?_
                clear hp1 hp2 HI4 hv3
                intro pz hv u13 u14 u15 u16 u17 u18 u19 u20 u21 u22 u23 u24 u25 u26 u27 u28 u29 u30 u31 u32 u33 u34 u35 u36 u37 u38 u39 u40 u41 u42 u43 u44 u45 u46 u47 u48 u49 u50 u51 u52 u53 u54 u55 u56 u57 u58 u59 u60 u61 u62 u63 u64 u65 u66 u67 u68 u69 u70 u71 u72 u73 u74 u75 u76 u77 u78 u79 u80 u81 u82 u83 u84 u85 u86 u87 u88 u89 u90 u91 u92 u93 u94 u95 u96 u97 u98 u99 u100 u101 u102 u103 u104 u105 u106 u107 u108 u109 u110 u111 u112 u113 u114 u115 u116 u117 u118 u119 u120 u121 u122 u123 u124 u125 u126 u127 u128 u129 u130 u131 u132 u133 w6 d6 hp1 hp2 h0
                have HI6 := Lib.hid h0
                clear h0
                refine HK6.out _ _ ?_
                clear HK6
                apply wp_seq_k
                intro K7 hK7
                have HK7 := Lib.hid hK7
                clear hK7
                have HJ7 : Hid (∀ (u12 u13 u14 u15 u16 u17 u18 u19 u20 u21 u22 u23 u24 u25 u26 u27 u28 u29 u30 u31 u32 u33 u34 u35 u36 u37 u38 u39 u40 u41 u42 u43 u44 u45 u46 u47 u48 u49 u50 u51 u52 u53 u54 u55 u56 u57 u58 u59 u60 u61 u62 u63 u64 u65 u66 u67 u68 u69 u70 u71 u72 u73 u74 u75 u76 u77 u78 u79 u80 u81 u82 u83 u84 u85 u86 u87 u88 u89 u90 u91 u92 u93 u94 u95 u96 u97 u98 u99 u100 u101 u102 u103 u104 u105 u106 u107 u108 u109 u110 u111 u112 u113 u114 u115 u116 u117 u118 u119 u120 u121 u122 u123 u124 u125 u126 u127 u128 u129 u130 u131 u132 u133 : Value) (wz : World) (dz : Array Int), PdI W wz b c d a e a2 e2 dz → K7 ({ tmps := #[.slice (some ⟨b, 0, none⟩) n c, .int .i64 (a2 : Nat), .int .i64 (e2 : Nat), .int .i64 (mm : Nat), undef, undef, undef, undef, .bool wb, .bool wp, .int .i64 (l : Nat), .int .i64 (pz : Nat), u12, u13, u14, u15, u16, u17, u18, u19, u20, u21, u22, u23, u24, u25, u26, u27, u28, u29, u30, u31, u32, u33, u34, u35, u36, u37, u38, u39, u40, u41, u42, u43, u44, u45, u46, u47, u48, u49, u50, u51, u52, u53, u54, u55, u56, u57, u58, u59, u60, u61, u62, u63, u64, u65, u66, u67, u68, u69, u70, u71, u72, u73, u74, u75, u76, u77, u78, u79, u80, u81, u82, u83, u84, u85, u86, u87, u88, u89, u90, u91, u92, u93, u94, u95, u96, u97, u98, u99, u100, u101, u102, u103, u104, u105, u106, u107, u108, u109, u110, u111, u112, u113, u114, u115, u116, u117, u118, u119, u120, u121, u122, u123, u124, u125, u126, u127, u128, u129, u130, u131, u132, u133], defers := [] } : Act) wz) := by
                  refine Lib.hid ?_
                  intro u12 u13 u14 u15 u16 u17 u18 u19 u20 u21 u22 u23 u24 u25 u26 u27 u28 u29 u30 u31 u32 u33 u34 u35 u36 u37 u38 u39 u40 u41 u42 u43 u44 u45 u46 u47 u48 u49 u50 u51 u52 u53 u54 u55 u56 u57 u58 u59 u60 u61 u62 u63 u64 u65 u66 u67 u68 u69 u70 u71 u72 u73 u74 u75 u76 u77 u78 u79 u80 u81 u82 u83 u84 u85 u86 u87 u88 u89 u90 u91 u92 u93 u94 u95 u96 u97 u98 u99 u100 u101 u102 u103 u104 u105 u106 u107 u108 u109 u110 u111 u112 u113 u114 u115 u116 u117 u118 u119 u120 u121 u122 u123 u124 u125 u126 u127 u128 u129 u130 u131 u132 u133 wz dz h0
                  have HIz := Lib.hid h0
                  clear h0
                  refine HK7.out _ _ ?_
                  clear HK7 HI6
                  apply wp_seq_k
                  intro K8 hK8
                  have HK8 := Lib.hid hK8
                  clear hK8
                  have HJ8 : Hid (∀ (u12 u13 u14 u15 u16 u17 u18 u19 u20 u21 u22 u23 u24 u25 u26 u27 u28 u29 u30 u31 u32 u33 u34 u35 u36 u37 u38 u39 u40 u41 u42 u43 u44 u45 u46 u47 u48 u49 u50 u51 u52 u53 u54 u55 u56 u57 u58 u59 u60 u61 u62 u63 u64 u65 u66 u67 u68 u69 u70 u71 u72 u73 u74 u75 u76 u77 u78 u79 u80 u81 u82 u83 u84 u85 u86 u87 u88 u89 u90 u91 u92 u93 u94 u95 u96 u97 u98 u99 u100 u101 u102 u103 u104 u105 u106 u107 u108 u109 u110 u111 u112 u113 u114 u115 u116 u117 u118 u119 u120 u121 u122 u123 u124 u125 u126 u127 u128 u129 u130 u131 u132 u133 : Value) (w7 : World), PdI W w7 b c d a e a2 e2 dz → K8 ({ tmps := #[.slice (some ⟨b, 0, none⟩) n c, .int .i64 (a2 : Nat), .int .i64 (e2 : Nat), .int .i64 (mm : Nat), undef, undef, undef, undef, .bool wb, .bool wp, .int .i64 (l : Nat), .int .i64 (pz : Nat), u12, u13, u14, u15, u16, u17, u18, u19, u20, u21, u22, u23, u24, u25, u26, u27, u28, u29, u30, u31, u32, u33, u34, u35, u36, u37, u38, u39, u40, u41, u42, u43, u44, u45, u46, u47, u48, u49, u50, u51, u52, u53, u54, u55, u56, u57, u58, u59, u60, u61, u62, u63, u64, u65, u66, u67, u68, u69, u70, u71, u72, u73, u74, u75, u76, u77, u78, u79, u80, u81, u82, u83, u84, u85, u86, u87, u88, u89, u90, u91, u92, u93, u94, u95, u96, u97, u98, u99, u100, u101, u102, u103, u104, u105, u106, u107, u108, u109, u110, u111, u112, u113, u114, u115, u116, u117, u118, u119, u120, u121, u122, u123, u124, u125, u126, u127, u128, u129, u130, u131, u132, u133], defers := [] } : Act) w7) := by
                    refine Lib.hid ?_
                    intro u12 u13 u14 u15 u16 u17 u18 u19 u20 u21 u22 u23 u24 u25 u26 u27 u28 u29 u30 u31 u32 u33 u34 u35 u36 u37 u38 u39 u40 u41 u42 u43 u44 u45 u46 u47 u48 u49 u50 u51 u52 u53 u54 u55 u56 u57 u58 u59 u60 u61 u62 u63 u64 u65 u66 u67 u68 u69 u70 u71 u72 u73 u74 u75 u76 u77 u78 u79 u80 u81 u82 u83 u84 u85 u86 u87 u88 u89 u90 u91 u92 u93 u94 u95 u96 u97 u98 u99 u100 u101 u102 u103 u104 u105 u106 u107 u108 u109 u110 u111 u112 u113 u114 u115 u116 u117 u118 u119 u120 u121 u122 u123 u124 u125 u126 u127 u128 u129 u130 u131 u132 u133 w7 HI7
                    refine HK8.out _ _ ?_
                    clear HK8 HIz
                    have HC := Lib.hid (partOrd_any w7 b c dz a2 e2 pz HI7.row hp1 hp2 (by rw [HI7.sz, Hs.out]; omega) (by rw [HI7.sz, Hs.out]; omega))
                    obtain ⟨mid, hmid⟩ : ∃ mid, (Sort.partition Sort.ltInt dz a2 e2 pz).1 = mid := ⟨_, rfl⟩
                    rw [hmid, HI7.sz, Hs.out] at HC
                    have HI7' := Lib.hid HI7
                    clear HI7
                    have HI7 := HI7'
                    clear HI7'
                    have Hmid := Lib.hid hmid
                    clear hmid
                    go_wp2_with fail
                    refine HC.out.mono ?_
                    rintro r w8 ⟨⟨ap, rfl⟩, h8⟩
                    obtain ⟨mid', d8, hmid', g1, g2, g3, g4, g5, g6, g7, g8⟩ := HI7.out.parts hp1 hp2 h8
                    rw [Hmid.out] at hmid'
                    subst hmid'
                    have G7 := Lib.hid g7
                    have G8 := Lib.hid g8
                    have H8s := Lib.hid (g3.trans Hs.out)
                    clear Hmid h8 g7 g8 HC HI7 g3
                    obtain ⟨q1, hq1⟩ : ∃ q : Nat, (mid : Int) - (a2 : Int) = (q : Int) := ⟨mid - a2, by omega⟩
                    obtain ⟨q2, hq2⟩ : ∃ q : Nat, (e2 : Int) - (mid : Int) = (q : Int) := ⟨e2 - mid, by omega⟩
                    obtain ⟨l8, hl8⟩ : ∃ q : Nat, (l : Int) / 8 = (q : Int) := ⟨l / 8, by omega⟩
                    by_cases hlt : q1 < q2
                    · have hlti : (q1 : Int) < (q2 : Int) := by omega
                      have HREC := Lib.hid (IH.out w8 d8 a2 mid mm (by omega) g4 g5 g1 (by rw [H8s.out]; omega) (by rw [H8s.out]; omega) (by omega))
                      rw [H8s.out] at HREC
                      clear g4 g5 g6 G8
                      go_wp2_with fail
                      refine HREC.out.mono ?_
                      rintro r w9 ⟨rfl, h9⟩
                      obtain ⟨d9, h9'⟩ := G7.out w9 h9
                      have HI9 := Lib.hid h9'
                      clear h9 h9' G7 HREC
                      go_wp2_with fail
                      case roundEnd =>
                        exact ⟨⟨mid + 1, e2, mm, _, ap, d9, by omega, by omega, he2, by omega, by push_cast; rfl, rfl, rfl, rfl, rfl, HI9⟩, by simp only [intOf]; omega⟩
                    · have hlti : ¬ (q1 : Int) < (q2 : Int) := by omega
                      have HREC := Lib.hid (IH.out w8 d8 (mid + 1) e2 mm (by omega) g4 g6 (by omega) (by rw [H8s.out]; omega) (by rw [H8s.out]; omega) (by omega))
                      rw [H8s.out, show ((mid + 1 : Nat) : Int) = (mid : Int) + 1 by push_cast; rfl] at HREC
                      clear g4 g5 g6 G7
                      go_wp2_with fail
                      refine HREC.out.mono ?_
                      rintro r w9 ⟨rfl, h9⟩
                      obtain ⟨d9, h9'⟩ := G8.out w9 h9
                      have HI9 := Lib.hid h9'
                      clear h9 h9' G8 HREC
                      go_wp2_with fail
                      case roundEnd =>
                        exact ⟨⟨a2, mid, mm, _, ap, d9, ha2, g1, by omega, by omega, rfl, rfl, rfl, rfl, rfl, HI9⟩, by simp only [intOf]; omega⟩
                  clear HK8
                  by_cases ha0 : a2 = 0
                  · have Hge := Lib.hid (show decide (0 < a2) = false from decide_eq_false (by omega))
                    have HI7 := Lib.hid (show PdI W wz.drew b c d a e a2 e2 dz from HIz.out.drew)
                    clear HIz
                    have Ha0 := Lib.hid ha0
                    clear ha0
                    go_wp2_with fail
                    refine wp_region_mix3 (KeepsBut []) (KeepsBut.refl []) (KeepsBut.trans []) [] [(0, 0), (0, 1), (0, 2), (0, 3), (0, 4), (0, 5), (0, 6), (0, 8), (0, 9), (0, 10), (1, 7), (1, 11), (2, 12), (0, 13), (0, 14)] (by kernel_rfl) (by kernel_rfl) (fun d _ _ _ _ h => by cases d <;> exact h) ?_
                    generalize wz.drew = w7 at HI7 ⊢
                    have hge := Hge.out
                    repeat ((first | (refine mix3_free (v := ?_) rfl rfl ?_ (mix3_norm (a' := ?_) ?_ ?_); rotate_left; focus (intro w'; go_simp; first | done | (with_reducible rfl))) | (refine mix3_pure (v := ?_) rfl rfl ?_ (mix3_norm (a' := ?_) ?_ ?_); rotate_left; focus (intro w' hR; go_simp; first | done | (with_reducible rfl))) | refine mix3_freeOff rfl rfl (mix3_norm (a' := ?_) ?_ ?_) | refine mix3_off rfl rfl (mix3_norm (a' := ?_) ?_ ?_)); rotate_left; focus (simp only [Act.put, List.getElem_toArray, List.getElem_cons_zero, List.getElem_cons_succ, List.setIfInBounds_toArray, List.set_cons_zero, List.set_cons_succ]; rfl))
                    refine mix3_skip (KeepsBut.refl []) rfl rfl (mix3_norm (a' := ?_) ?_ ?_)
                    rotate_left
                    focus (simp only [Act.put, List.getElem_toArray, List.getElem_cons_zero, List.getElem_cons_succ, List.setIfInBounds_toArray, List.set_cons_zero, List.set_cons_succ]; rfl)
                    repeat ((first | (refine mix3_free (v := ?_) rfl rfl ?_ (mix3_norm (a' := ?_) ?_ ?_); rotate_left; focus (intro w'; go_simp; first | done | (with_reducible rfl))) | (refine mix3_pure (v := ?_) rfl rfl ?_ (mix3_norm (a' := ?_) ?_ ?_); rotate_left; focus (intro w' hR; go_simp; first | done | (with_reducible rfl))) | refine mix3_freeOff rfl rfl (mix3_norm (a' := ?_) ?_ ?_) | refine mix3_off rfl rfl (mix3_norm (a' := ?_) ?_ ?_)); rotate_left; focus (simp only [Act.put, List.getElem_toArray, List.getElem_cons_zero, List.getElem_cons_succ, List.setIfInBounds_toArray, List.set_cons_zero, List.set_cons_succ]; rfl))
                    refine mix3_done ?_
                    clear hge Hge
                    go_wp2_with fail
                    exact HJ8.out _ _ _ _ _ _ _ _ _ _ _ _ _ _ _ _ _ _ _ _ _ _ _ _ _ _ _ _ _ _ _ _ _ _ _ _ _ _ _ _ _ _ _ _ _ _ _ _ _ _ _ _ _ _ _ _ _ _ _ _ _ _ _ _ _ _ _ _ _ _ _ _ _ _ _ _ _ _ _ _ _ _ _ _ _ _ _ _ _ _ _ _ _ _ _ _ _ _ _ _ _ _ _ _ _ _ _ _ _ _ _ _ _ _ _ _ _ _ _ _ _ _ _ HI7.out
                  · obtain ⟨a1, ha1⟩ : ∃ a1, a2 = a1 + 1 := ⟨a2 - 1, by omega⟩
                    have Ha1 := Lib.hid ha1
                    have ha0i : (0 : Int) < (a2 : Int) := by omega
                    have ha0n : 0 < a2 := by omega
                    have ha1n : (a1 : Int) < (n : Int) := by omega
                    have hpn : (pz : Int) < (n : Int) := by omega
                    have hw : IntKind.i64.wrap ((a2 : Int) - 1) = (a1 : Int) := by rw [IntWalk.i64_in ((a2 : Int) - 1) ⟨by omega, by omega⟩]; omega
                    have his : a1 < dz.size := by rw [HIz.out.sz, Hs.out]; omega
                    have los : pz < dz.size := by rw [HIz.out.sz, Hs.out]; omega
                    have s0 := HIz.out.row.cell his
                    have t0 := HIz.out.row.cell los
                    obtain ⟨x, hx⟩ : ∃ x, dz[a1]! = x := ⟨_, rfl⟩
                    obtain ⟨y, hy⟩ : ∃ y, dz[pz]! = y := ⟨_, rfl⟩
                    rw [hx] at s0
                    rw [hy] at t0
                    have HNL := Lib.hid (show Sort.ltInt dz[a2 - 1]! dz[pz]! = Sort.ltInt x y by rw [show a2 - 1 = a1 by omega, hx, hy])
                    have hl := less_any x y
                    clear ha1 hx hy
                    go_wp2_with fail
                    have p0 := fun w' (hk : KeepsBut [] wz.drew w') => hk.cell (p := ⟨b, a1, none⟩) s0 (by simp)
                    have p1 := fun w' (hk : KeepsBut [] wz.drew w') => hk.cell (p := ⟨b, pz, none⟩) t0 (by simp)
                    have HI7 := Lib.hid (show PdI W wz.drew b c d a e a2 e2 dz from HIz.out.drew)
                    clear s0 t0 HIz
                    refine wp_region_mix3 (KeepsBut []) (KeepsBut.refl []) (KeepsBut.trans []) [] [(0, 0), (0, 1), (0, 2), (0, 3), (0, 4), (0, 5), (0, 6), (0, 8), (0, 9), (0, 10), (1, 7), (1, 11), (2, 12), (0, 13), (0, 14)] (by kernel_rfl) (by kernel_rfl) (fun d _ _ _ _ h => by cases d <;> exact h) ?_
                    generalize wz.drew = w7 at p0 p1 HI7 ⊢
                    repeat ((first | (refine mix3_free (v := ?_) rfl rfl ?_ (mix3_norm (a' := ?_) ?_ ?_); rotate_left; focus (intro w'; go_simp; first | done | (with_reducible rfl))) | (refine mix3_pure (v := ?_) rfl rfl ?_ (mix3_norm (a' := ?_) ?_ ?_); rotate_left; focus (intro w' hR; go_simp; first | done | (with_reducible rfl))) | refine mix3_freeOff rfl rfl (mix3_norm (a' := ?_) ?_ ?_) | refine mix3_off rfl rfl (mix3_norm (a' := ?_) ?_ ?_)); rotate_left; focus (simp only [Act.put, List.getElem_toArray, List.getElem_cons_zero, List.getElem_cons_succ, List.setIfInBounds_toArray, List.set_cons_zero, List.set_cons_succ]; rfl))
                    clear p0 p1
                    by_cases hxy : x < y
                    · have hlt : Sort.ltInt x y = true := decide_eq_true hxy
                      rw [hlt] at hl
                      clear hxy hlt HNL
                      refine mix3_eff rfl ?_
                      simp only [List.getElem_toArray, List.getElem_cons_zero, List.getElem_cons_succ]
                      go_wp2_with fail
                      refine (hl _).mono ?_
                      rintro r' w3 ⟨rfl, rfl⟩
                      go_wp2_with fail
                      refine mixQ3_normal (KeepsBut.refl _ _) rfl ?_
                      repeat ((first | (refine mix3_free (v := ?_) rfl rfl ?_ (mix3_norm (a' := ?_) ?_ ?_); rotate_left; focus (intro w'; go_simp; first | done | (with_reducible rfl))) | (refine mix3_pure (v := ?_) rfl rfl ?_ (mix3_norm (a' := ?_) ?_ ?_); rotate_left; focus (intro w' hR; go_simp; first | done | (with_reducible rfl))) | refine mix3_freeOff rfl rfl (mix3_norm (a' := ?_) ?_ ?_) | refine mix3_off rfl rfl (mix3_norm (a' := ?_) ?_ ?_)); rotate_left; focus (simp only [Act.put, List.getElem_toArray, List.getElem_cons_zero, List.getElem_cons_succ, List.setIfInBounds_toArray, List.set_cons_zero, List.set_cons_succ]; rfl))
                      refine mix3_done ?_
                      go_wp2_with fail
                      exact HJ8.out _ _ _ _ _ _ _ _ _ _ _ _ _ _ _ _ _ _ _ _ _ _ _ _ _ _ _ _ _ _ _ _ _ _ _ _ _ _ _ _ _ _ _ _ _ _ _ _ _ _ _ _ _ _ _ _ _ _ _ _ _ _ _ _ _ _ _ _ _ _ _ _ _ _ _ _ _ _ _ _ _ _ _ _ _ _ _ _ _ _ _ _ _ _ _ _ _ _ _ _ _ _ _ _ _ _ _ _ _ _ _ _ _ _ _ _ _ _ _ _ _ _ _ HI7.out
                    · have hlt : Sort.ltInt x y = false := decide_eq_false hxy
                      rw [hlt] at hl
                      have HNL2 := Lib.hid (HNL.out.trans hlt)
                      clear hxy hlt HNL HJ8
                      refine mix3_eff rfl ?_
                      simp only [List.getElem_toArray, List.getElem_cons_zero, List.getElem_cons_succ]
                      go_wp2_with fail
                      refine (hl _).mono ?_
                      rintro r' w3 ⟨rfl, rfl⟩
                      go_wp2_with fail
                      refine mixQ3_normal (KeepsBut.refl _ _) rfl ?_
                      repeat ((first | (refine mix3_free (v := ?_) rfl rfl ?_ (mix3_norm (a' := ?_) ?_ ?_); rotate_left; focus (intro w'; go_simp; first | done | (with_reducible rfl))) | (refine mix3_pure (v := ?_) rfl rfl ?_ (mix3_norm (a' := ?_) ?_ ?_); rotate_left; focus (intro w' hR; go_simp; first | done | (with_reducible rfl))) | refine mix3_freeOff rfl rfl (mix3_norm (a' := ?_) ?_ ?_) | refine mix3_off rfl rfl (mix3_norm (a' := ?_) ?_ ?_)); rotate_left; focus (simp only [Act.put, List.getElem_toArray, List.getElem_cons_zero, List.getElem_cons_succ, List.setIfInBounds_toArray, List.set_cons_zero, List.set_cons_succ]; rfl))
                      refine mix3_done ?_
                      clear hw ha1n hpn his los
                      have HC := Lib.hid (partEq_any w7 b c dz a2 e2 pz HI7.out.row hp1 hp2 (by rw [HI7.out.sz, Hs.out]; omega) (by rw [HI7.out.sz, Hs.out]; omega))
                      obtain ⟨mid, hmid⟩ : ∃ mid, (Sort.partitionEqual Sort.ltInt dz a2 e2 pz).1 = mid := ⟨_, rfl⟩
                      rw [hmid, HI7.out.sz, Hs.out] at HC
                      have Hmid := Lib.hid hmid
                      clear hmid
                      go_wp2_with fail
                      refine HC.out.mono ?_
                      rintro r w8 ⟨rfl, h8⟩
                      obtain ⟨mid', d8, hmid', g1, g2, g3⟩ := HI7.out.equal (by omega) hp1 hp2 HNL2.out h8
                      rw [Hmid.out] at hmid'
                      subst hmid'
                      have HI9 := Lib.hid g3
                      clear Hmid h8 HC HI7 g3 HNL2
                      go_wp2_with fail
                      case roundEnd =>
                        exact ⟨⟨mid, e2, mm, _, _, d8, by omega, g2, he2, by omega, rfl, rfl, rfl, rfl, rfl, HI9⟩, by simp only [intOf]; omega⟩
                clear HK7
                cases wb with
                | false =>
                  go_wp2_with fail
                  exact HJ7.out _ _ _ _ _ _ _ _ _ _ _ _ _ _ _ _ _ _ _ _ _ _ _ _ _ _ _ _ _ _ _ _ _ _ _ _ _ _ _ _ _ _ _ _ _ _ _ _ _ _ _ _ _ _ _ _ _ _ _ _ _ _ _ _ _ _ _ _ _ _ _ _ _ _ _ _ _ _ _ _ _ _ _ _ _ _ _ _ _ _ _ _ _ _ _ _ _ _ _ _ _ _ _ _ _ _ _ _ _ _ _ _ _ _ _ _ _ _ _ _ _ _ _ _ HI6.out
                | true =>
                  cases wp with
                  | false =>
                    go_wp2_with fail
                    exact HJ7.out _ _ _ _ _ _ _ _ _ _ _ _ _ _ _ _ _ _ _ _ _ _ _ _ _ _ _ _ _ _ _ _ _ _ _ _ _ _ _ _ _ _ _ _ _ _ _ _ _ _ _ _ _ _ _ _ _ _ _ _ _ _ _ _ _ _ _ _ _ _ _ _ _ _ _ _ _ _ _ _ _ _ _ _ _ _ _ _ _ _ _ _ _ _ _ _ _ _ _ _ _ _ _ _ _ _ _ _ _ _ _ _ _ _ _ _ _ _ _ _ _ _ _ _ HI6.out
                  | true =>
                    by_cases hv1 : hv = 1
                    · subst hv1
                      have HP := Lib.hid (partial_any w6 b c d6 a2 e2 HI6.out.row (by omega) (by rw [HI6.out.sz, Hs.out]; omega) (by rw [HI6.out.sz, Hs.out]; omega))
                      rw [HI6.out.sz, Hs.out] at HP
                      cases hx : (Sort.partialInsertionSort Sort.ltInt d6 a2 e2).2 with
                      | true =>
                        rw [hx] at HP
                        have Hx := Lib.hid hx
                        clear hx HJ7
                        go_wp2_with fail
                        refine HP.out.mono ?_
                        rintro r w7 ⟨rfl, h6⟩
                        have HF := Lib.hid (HI6.out.parT (by omega) h6 Hx.out)
                        clear h6 HP HI6
                        go_wp2_with fail
                        try simp only [Exit.inBlock, Exit.then]
                        refine bodyPost_ret (results_none rfl _ _ _) rfl ?_
                        exact ⟨rfl, HF.out⟩
                      | false =>
                        rw [hx] at HP
                        have Hx := Lib.hid hx
                        clear hx
                        go_wp2_with fail
                        refine HP.out.mono ?_
                        rintro r wz ⟨rfl, h6⟩
                        have HIz := Lib.hid (HI6.out.parF (by omega) h6)
                        clear h6 HP HI6
                        go_wp2_with fail
                        exact HJ7.out _ _ _ _ _ _ _ _ _ _ _ _ _ _ _ _ _ _ _ _ _ _ _ _ _ _ _ _ _ _ _ _ _ _ _ _ _ _ _ _ _ _ _ _ _ _ _ _ _ _ _ _ _ _ _ _ _ _ _ _ _ _ _ _ _ _ _ _ _ _ _ _ _ _ _ _ _ _ _ _ _ _ _ _ _ _ _ _ _ _ _ _ _ _ _ _ _ _ _ _ _ _ _ _ _ _ _ _ _ _ _ _ _ _ _ _ _ _ _ _ _ _ _ _ HIz.out
                    · have hvf : (hv == 1) = false := by rw [beq_eq_false_iff_ne]; exact hv1
                      clear hv1
                      go_wp2_with fail
                      exact HJ7.out _ _ _ _ _ _ _ _ _ _ _ _ _ _ _ _ _ _ _ _ _ _ _ _ _ _ _ _ _ _ _ _ _ _ _ _ _ _ _ _ _ _ _ _ _ _ _ _ _ _ _ _ _ _ _ _ _ _ _ _ _ _ _ _ _ _ _ _ _ _ _ _ _ _ _ _ _ _ _ _ _ _ _ _ _ _ _ _ _ _ _ _ _ _ _ _ _ _ _ _ _ _ _ _ _ _ _ _ _ _ _ _ _ _ _ _ _ _ _ _ _ _ _ _ HI6.out
              clear HK6
              by_cases hv2 : hv = 2
              · clear hv3
                subst hv2
                have HV := Lib.hid (reverse_any w4 b c d4 a2 e2 HI4.out.row (by omega) (by rw [HI4.out.sz, Hs.out]; omega) (by rw [HI4.out.sz, Hs.out]; omega))
                rw [HI4.out.sz, Hs.out] at HV
                obtain ⟨e3, he3⟩ : ∃ e3 : Nat, (e2 : Int) - 1 = (e3 : Int) := ⟨e2 - 1, by omega⟩
                obtain ⟨q0, hq0⟩ : ∃ q0 : Nat, (pz : Int) - (a2 : Int) = (q0 : Int) := ⟨pz - a2, by omega⟩
                obtain ⟨p5, hp5⟩ : ∃ p5 : Nat, (e3 : Int) - (q0 : Int) = (p5 : Int) := ⟨e3 - q0, by omega⟩
                have hp51 : a2 ≤ p5 := by omega
                have hp52 : p5 < e2 := by omega
                go_wp2_with fail
                refine HV.out.mono ?_
                rintro r w5 ⟨rfl, h5⟩
                have HI5 := Lib.hid (HI4.out.rev h5)
                clear h5 HV HI4
                go_wp2_with fail
                exact HJ6.out p5 1 _ _ _ _ _ _ _ _ _ _ _ _ _ _ _ _ _ _ _ _ _ _ _ _ _ _ _ _ _ _ _ _ _ _ _ _ _ _ _ _ _ _ _ _ _ _ _ _ _ _ _ _ _ _ _ _ _ _ _ _ _ _ _ _ _ _ _ _ _ _ _ _ _ _ _ _ _ _ _ _ _ _ _ _ _ _ _ _ _ _ _ _ _ _ _ _ _ _ _ _ _ _ _ _ _ _ _ _ _ _ _ _ _ _ _ _ _ _ _ _ _ _ _ hp51 hp52 HI5.out
              · have hvf : (hv == 2) = false := by rw [beq_eq_false_iff_ne]; exact hv2
                clear hv3 hv2
                go_wp2_with fail
                exact HJ6.out pz hv _ _ _ _ _ _ _ _ _ _ _ _ _ _ _ _ _ _ _ _ _ _ _ _ _ _ _ _ _ _ _ _ _ _ _ _ _ _ _ _ _ _ _ _ _ _ _ _ _ _ _ _ _ _ _ _ _ _ _ _ _ _ _ _ _ _ _ _ _ _ _ _ _ _ _ _ _ _ _ _ _ _ _ _ _ _ _ _ _ _ _ _ _ _ _ _ _ _ _ _ _ _ _ _ _ _ _ _ _ _ _ _ _ _ _ _ _ _ _ _ _ _ _ hp1 hp2 HI4.out
            clear HK5
            have hpv := Sort.choosePivot_holds Sort.ltInt d3 a2 e2 (by omega)
            have HC := Lib.hid (pivot_any w3 b c d3 a2 e2 HI3.out.row h12a (by rw [HI3.out.sz, Hs.out]; omega) (by rw [HI3.out.sz, Hs.out]; omega))
            rw [HI3.out.sz, Hs.out] at HC
            obtain ⟨pz, hpz⟩ : ∃ p, (Sort.choosePivot Sort.ltInt d3 a2 e2).1 = p := ⟨_, rfl⟩
            obtain ⟨hh, hhh⟩ : ∃ h, hintI (Sort.choosePivot Sort.ltInt d3 a2 e2).2 = h := ⟨_, rfl⟩
            have hv3 : hh = 0 ∨ hh = 1 ∨ hh = 2 := by
              rw [← hhh]
              cases (Sort.choosePivot Sort.ltInt d3 a2 e2).2
              · exact .inl rfl
              · exact .inr (.inl rfl)
              · exact .inr (.inr rfl)
            rw [hpz] at hpv HC
            rw [hhh] at HC
            obtain ⟨hp1, hp2⟩ := hpv
            have HV3 := Lib.hid hv3
            clear hpz hhh hv3
            go_wp2_with fail
            refine HC.out.mono ?_
            rintro r w4 ⟨rfl, h4⟩
            have HI4 := Lib.hid (HI3.out.quiet h4)
            clear h4 HC HI3
            go_wp2_with fail
            exact HJ5.out pz hh _ _ _ _ _ _ _ _ _ _ _ _ _ _ _ _ _ _ _ _ _ _ _ _ _ _ _ _ _ _ _ _ _ _ _ _ _ _ _ _ _ _ _ _ _ _ _ _ _ _ _ _ _ _ _ _ _ _ _ _ _ _ _ _ _ _ _ _ _ _ _ _ _ _ _ _ _ _ _ _ _ _ _ _ _ _ _ _ _ _ _ _ _ _ _ _ _ _ _ _ _ _ _ _ _ _ _ _ _ _ _ _ _ _ _ _ _ _ _ _ _ _ _ HV3.out hp1 hp2 HI4.out
          clear HK4
          cases wb with
          | false =>
            have HB := Lib.hid (break_any wo b c d2 a2 e2 HI.out.row h12a (by rw [HI.out.sz, Hs.out]; omega) (by rw [HI.out.sz, Hs.out]; omega))
            rw [HI.out.sz, Hs.out] at HB
            go_wp2_with fail
            refine HB.out.mono ?_
            rintro r w3 ⟨rfl, h3⟩
            obtain ⟨d3, h3'⟩ := HI.out.brk h3
            have HI3 := Lib.hid h3'
            clear h3 h3' HB HI
            go_wp2_with fail
            exact HJ4.out m3 _ _ _ _ _ _ _ _ _ _ _ _ _ _ _ _ _ _ _ _ _ _ _ _ _ _ _ _ _ _ _ _ _ _ _ _ _ _ _ _ _ _ _ _ _ _ _ _ _ _ _ _ _ _ _ _ _ _ _ _ _ _ _ _ _ _ _ _ _ _ _ _ _ _ _ _ _ _ _ _ _ _ _ _ _ _ _ _ _ _ _ _ _ _ _ _ _ _ _ _ _ _ _ _ _ _ _ _ _ _ _ _ _ _ _ _ _ _ _ _ _ _ _ _ _ hm60 HI3.out
          | true =>
            go_wp2_with fail
            exact HJ4.out m2 _ _ _ _ _ _ _ _ _ _ _ _ _ _ _ _ _ _ _ _ _ _ _ _ _ _ _ _ _ _ _ _ _ _ _ _ _ _ _ _ _ _ _ _ _ _ _ _ _ _ _ _ _ _ _ _ _ _ _ _ _ _ _ _ _ _ _ _ _ _ _ _ _ _ _ _ _ _ _ _ _ _ _ _ _ _ _ _ _ _ _ _ _ _ _ _ _ _ _ _ _ _ _ _ _ _ _ _ _ _ _ _ _ _ _ _ _ _ _ _ _ _ _ _ _ hm2 HI.out
end Go.Proofs.Ytebcginnnjigjaa

end
section
/- slices.Sort at uint64, at most sixty numbers: walked. -/
open Go.RowKit
namespace Go.Proofs.Ytebcginnnjigjaa
theorem len_le60 : ∀ n, n < 61 → Lib.bitLen n ≤ 64 := by decide
theorem perm_all {d d' : Array Int} (h : Sort.PermIn 0 d.size d d') : d'.toList.Perm d.toList := by
  obtain ⟨h1, _, h3⟩ := h
  have e : d'.extract 0 d.size = d' := by rw [← h1]; simp
  rw [e] at h3
  simpa using h3
theorem pair_all {d' : Array Int} {n : Nat} (hn : d'.size = n) (h : Sort.SortedIn Sort.ltInt 0 n d') : d'.toList.Pairwise (· ≤ ·) := by
  rw [List.pairwise_iff_getElem]
  intro i j hi hj hij
  have hj' : j < d'.size := by simpa using hj
  have hi' : i < d'.size := by simpa using hi
  have := h i j (Nat.zero_le _) hij (by omega)
  rw [getElem!_pos d' j hj', getElem!_pos d' i hi'] at this
  have := of_decide_eq_false this
  simp only [Array.getElem_toList]
  omega
set_option maxRecDepth 100000 in
theorem sort60_any (W : World) (b c : Nat) (d : Array Int) (hr : ARow W b c d) (hn : d.size ≤ 60) : Calls Try.prog 49 #[.slice (some ⟨b, 0, none⟩) d.size c] W fun e W' => e = .returned (.tuple #[]) ∧ PdDone W W' b c d 0 d.size := by
  have HP := Lib.hid (fun m hm => pdq_any b c (d.size + 1) W d 0 d.size m (by omega) hr (.inl rfl) (Nat.zero_le _) (Nat.le_refl _) hn hm)
  have HB := Lib.hid (bitsLen_any d.size W (by omega))
  have hlen := len_le60 d.size (by omega)
  have wr := wrap64_nat (n := d.size) (by omega)
  generalize d.size = n at HP HB hlen wr hn ⊢
  rw [show ((0 : Nat) : Int) = 0 from rfl] at HP
  generalize Lib.bitLen n = nb at HB hlen
  have HP2 := Lib.hid (HP.out nb hlen)
  clear hr HP
  go_enter Try.func49, Try.ntmps49
  go_wp2_with fail
  refine HB.out.mono ?_
  rintro e w1 ⟨rfl, rfl⟩
  clear wr HB
  go_wp2_with fail
  refine HP2.out.mono ?_
  rintro e w2 ⟨rfl, h2⟩
  have H2 := Lib.hid h2
  clear h2
  go_wp2_with fail
  go_end0
  exact ⟨rfl, H2.out⟩
theorem sortsTo_60 : SortsTo 60 := by
  intro W A c l hl hr
  rcases hr.2 with ⟨_, h0⟩ | ⟨g, cap, cur, hv, _⟩
  · exact sort1_any W A c l (by omega) hr
  · injection hv with hA
    subst hA
    have H := sort60_any W g c l.toArray (by unfold ARow; exact hr) (by simpa using hl)
    rw [List.size_toArray] at H
    refine H.mono ?_
    rintro e W' ⟨rfl, d', h1, h2, h3, h4⟩
    rw [show l.length = l.toArray.size by simp] at h1 h2
    refine ⟨rfl, d'.toList, by simpa using perm_all h1, pair_all h1.1 h2, h3, h4.mono (fun i _ hi => by subst hi; rfl)⟩
end Go.Proofs.Ytebcginnnjigjaa

end
