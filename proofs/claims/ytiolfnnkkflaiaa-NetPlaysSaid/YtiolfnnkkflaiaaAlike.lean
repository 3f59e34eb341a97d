/- Both nets compared; acts that are few and short. -/
import Derived.Test.YtiolfnnkkflaiaaDuo
open Go.RowKit
namespace Go.Proofs.Ytiolfnnkkflaiaa

set_option maxHeartbeats 4000000 in
set_option maxRecDepth 100000 in
theorem alike_any (w : World) (g : Nat) (A : Option Addr) (c g' : Nat) (A' : Option Addr) (c' : Nat) (σ : Nt) (hok : σ.ok) (h : Duo w g A c g' A' c' σ σ) :
    Calls Try.prog 40 #[.pointer (some ⟨g, 0, none⟩), .pointer (some ⟨g', 0, none⟩)] w fun e w' => e = .returned (.bool true) ∧ Below w.heap.size w w' := by
  have HC := Lib.hid (netCounts_any w g A c σ h.n)
  have HD := Lib.hid h
  have h60 := hok.2.2.2
  clear h hok
  go_enter Try.func40, Try.ntmps40
  go_wp2_with fail
  refine HC.out.mono ?_
  rintro e w1 ⟨rfl, hb1⟩
  have HD1 := Lib.hid (HD.out.chg (F := fun _ => False) (.of_below hb1.drew) (fun _ _ f => f))
  have HL := Lib.hid (netLen_any w1.drew g A c σ HD1.out.n)
  have Hb1 := Lib.hid hb1.drew
  obtain ⟨⟨c0, c1, c2, c3⟩, _⟩ := HD1.out.r.cells
  clear hb1
  go_wp2_with fail
  have q0 := fun w' (hk : KeepsBut [] w1.drew w') => hk.cell (p := ⟨g', 0, none⟩) c0 (by simp)
  have q1 := fun w' (hk : KeepsBut [] w1.drew w') => hk.cell (p := ⟨g', 1, none⟩) c1 (by simp)
  have q2 := fun w' (hk : KeepsBut [] w1.drew w') => hk.cell (p := ⟨g', 2, none⟩) c2 (by simp)
  have q3 := fun w' (hk : KeepsBut [] w1.drew w') => hk.cell (p := ⟨g', 3, none⟩) c3 (by simp)
  refine wp_region_mix3 (KeepsBut []) (KeepsBut.refl []) (KeepsBut.trans []) [] [(0, 0), (0, 2), (0, 3), (0, 4), (1, 5), (0, 6), (2, 1), (0, 7), (0, 8), (0, 9), (0, 10), (0, 11), (0, 12), (1, 13), (0, 14), (0, 15), (0, 16), (0, 17), (0, 18), (0, 19), (0, 20), (1, 21), (0, 22), (0, 23), (0, 24), (0, 25), (0, 26), (0, 27), (0, 28), (1, 29), (0, 30), (0, 31)] (by kernel_rfl) (by kernel_rfl) (fun d _ _ _ _ h => by cases d <;> exact h) ?_
  repeat (first
    | (refine mix3_free (v := ?_) rfl rfl ?_ (mix3_norm (a' := ?_) ?_ ?_)
       rotate_left
       focus (intro w'; go_simp; first | done | (with_reducible rfl))
       rotate_left
       focus (simp only [Act.put, List.getElem_toArray, List.getElem_cons_zero, List.getElem_cons_succ, List.setIfInBounds_toArray, List.set_cons_zero, List.set_cons_succ]; rfl))
    | (refine mix3_pure (v := ?_) rfl rfl ?_ (mix3_norm (a' := ?_) ?_ ?_)
       rotate_left
       focus (intro w' hR; go_simp; first | done | (with_reducible rfl))
       rotate_left
       focus (simp only [Act.put, List.getElem_toArray, List.getElem_cons_zero, List.getElem_cons_succ, List.setIfInBounds_toArray, List.set_cons_zero, List.set_cons_succ]; rfl))
    | (refine mix3_freeOff rfl rfl (mix3_norm (a' := ?_) ?_ ?_)
       rotate_left
       focus (simp only [Act.put, List.getElem_toArray, List.getElem_cons_zero, List.getElem_cons_succ, List.setIfInBounds_toArray, List.set_cons_zero, List.set_cons_succ]; rfl))
    | (refine mix3_off rfl rfl (mix3_norm (a' := ?_) ?_ ?_)
       rotate_left
       focus (simp only [Act.put, List.getElem_toArray, List.getElem_cons_zero, List.getElem_cons_succ, List.setIfInBounds_toArray, List.set_cons_zero, List.set_cons_succ]; rfl)))
  refine mix3_eff rfl ?_
  simp only [List.getElem_toArray, List.getElem_cons_zero, List.getElem_cons_succ]
  go_wp2_with fail
  refine HL.out.mono ?_
  rintro e w2 ⟨rfl, rfl⟩
  go_wp2_with fail
  refine mixQ3_normal (KeepsBut.refl _ _) rfl ?_
  repeat (first
    | (refine mix3_free (v := ?_) rfl rfl ?_ (mix3_norm (a' := ?_) ?_ ?_)
       rotate_left
       focus (intro w'; go_simp; first | done | (with_reducible rfl))
       rotate_left
       focus (simp only [Act.put, List.getElem_toArray, List.getElem_cons_zero, List.getElem_cons_succ, List.setIfInBounds_toArray, List.set_cons_zero, List.set_cons_succ]; rfl))
    | (refine mix3_pure (v := ?_) rfl rfl ?_ (mix3_norm (a' := ?_) ?_ ?_)
       rotate_left
       focus (intro w' hR; go_simp; first | done | (with_reducible rfl))
       rotate_left
       focus (simp only [Act.put, List.getElem_toArray, List.getElem_cons_zero, List.getElem_cons_succ, List.setIfInBounds_toArray, List.set_cons_zero, List.set_cons_succ]; rfl))
    | (refine mix3_freeOff rfl rfl (mix3_norm (a' := ?_) ?_ ?_)
       rotate_left
       focus (simp only [Act.put, List.getElem_toArray, List.getElem_cons_zero, List.getElem_cons_succ, List.setIfInBounds_toArray, List.set_cons_zero, List.set_cons_succ]; rfl))
    | (refine mix3_off rfl rfl (mix3_norm (a' := ?_) ?_ ?_)
       rotate_left
       focus (simp only [Act.put, List.getElem_toArray, List.getElem_cons_zero, List.getElem_cons_succ, List.setIfInBounds_toArray, List.set_cons_zero, List.set_cons_succ]; rfl)))
  refine mix3_done ?_
  clear q0 q1 q2 q3 c0 c1 c2 c3 HL
  generalize w1.drew = w2 at HD1 Hb1 ⊢
  go_wp2_with fail
  go_loopw [8] (fun i wr => ∃ k : Nat, k ≤ σ.ps.length ∧ i = .int .i64 k ∧ Hid (Below w2.heap.size w2 wr)) (fun i _ => σ.ps.length - (intOf i).toNat)
  case atStart => exact ⟨0, Nat.zero_le _, rfl, Lib.hid (Below.refl _ _)⟩
  case round =>
    obtain ⟨k, hk, rfl, Hb⟩ := hrel
    have HDr := Lib.hid (HD1.out.chg (F := fun _ => False) (.of_below Hb.out) (fun _ _ f => f))
    obtain ⟨⟨c0, _, _, _⟩, _⟩ := HDr.out.r.cells
    have hk100 : k ≤ 100 := by omega
    by_cases hlt : k < σ.ps.length
    · have hpk := pAt_in hlt
      have HA := Lib.hid (netAt_any wr g A c σ HDr.out.n k)
      rw [hpk, hasE_in (show inN σ k by unfold inN; omega), show ((0 : Nat) : Int) = 0 from rfl] at HA
      obtain ⟨b, rfl, hbl⟩ := HD1.out.r.2.1.form (by omega)
      obtain ⟨d0, d1, _, _⟩ := HDr.out.r.2.1.cell k hlt
      generalize σ.ps[k] = p at HA d0 d1
      obtain ⟨p1, p2⟩ := p
      simp only at HA d0 d1
      have hkI : (k : Int) < (σ.ps.length : Int) := by omega
      clear hpk
      go_wp2_with fail
      refine HA.out.mono ?_
      rintro e w3 ⟨rfl, hb3⟩
      obtain ⟨hbx, hgx, hsx⟩ := alloc1 w3 #[.int .i64 p1, .string p2] 70
      have hb := hb3.trans (hbx.mono (B' := wr.heap.size) hb3.size)
      have d0 := ((Chg.of_below (F := fun _ => False) hb).drew).cell d0 (fun f => f)
      have d1 := ((Chg.of_below (F := fun _ => False) hb).drew).cell d1 (fun f => f)
      have c0 := ((Chg.of_below (F := fun _ => False) hb).drew).cell c0 (fun f => f)
      obtain ⟨x0, x1, _, _⟩ := cells2 hgx
      have HB := Lib.hid (hb.drew)
      go_wp2_with fail
      clear hb3 hbx hgx hsx hb
      have x0 : (w3.alloc (.cells #[.int .i64 p1, .string p2] 70)).drew.cell? ⟨w3.heap.size, 0, none⟩ = some (.int .i64 p1) := x0
      have x1 : (w3.alloc (.cells #[.int .i64 p1, .string p2] 70)).drew.cell? ⟨w3.heap.size, 1, none⟩ = some (.string p2) := x1
      refine wp_region_mix3 (KeepsBut []) (KeepsBut.refl []) (KeepsBut.trans []) [] [(0, 1), (0, 2), (0, 3), (0, 5), (1, 0), (1, 4), (0, 6), (1, 7), (0, 8), (0, 9), (0, 10), (0, 11), (0, 12)] (by kernel_rfl) (by kernel_rfl) (fun d _ _ _ _ h => by cases d <;> exact h) ?_
      generalize (w3.alloc (.cells #[.int .i64 p1, .string p2] 70)).drew = w4 at *
      have q0 := fun w' (hk : KeepsBut [] w4 w') => hk.cell (p := ⟨g', 0, none⟩) c0 (by simp)
      have q1 := fun w' (hk : KeepsBut [] w4 w') => hk.cell (p := ⟨w3.heap.size, 0, none⟩) x0 (by simp)
      have q2 := fun w' (hk : KeepsBut [] w4 w') => hk.cell (p := ⟨w3.heap.size, 1, none⟩) x1 (by simp)
      have q3 := fun w' (hk : KeepsBut [] w4 w') => hk.cell (p := ⟨b, k * 2, none⟩) d0 (by simp)
      have q4 := fun w' (hk : KeepsBut [] w4 w') => hk.cell (p := ⟨b, k * 2 + 1, none⟩) d1 (by simp)
      repeat (first
        | (refine mix3_free (v := ?_) rfl rfl ?_ (mix3_norm (a' := ?_) ?_ ?_)
           rotate_left
           focus (intro w'; go_simp; first | done | (with_reducible rfl))
           rotate_left
           focus (simp only [Act.put, List.getElem_toArray, List.getElem_cons_zero, List.getElem_cons_succ, List.setIfInBounds_toArray, List.set_cons_zero, List.set_cons_succ]; rfl))
        | (refine mix3_pure (v := ?_) rfl rfl ?_ (mix3_norm (a' := ?_) ?_ ?_)
           rotate_left
           focus (intro w' hR; go_simp; first | done | (with_reducible rfl))
           rotate_left
           focus (simp only [Act.put, List.getElem_toArray, List.getElem_cons_zero, List.getElem_cons_succ, List.setIfInBounds_toArray, List.set_cons_zero, List.set_cons_succ]; rfl))
        | (refine mix3_freeOff rfl rfl (mix3_norm (a' := ?_) ?_ ?_)
           rotate_left
           focus (simp only [Act.put, List.getElem_toArray, List.getElem_cons_zero, List.getElem_cons_succ, List.setIfInBounds_toArray, List.set_cons_zero, List.set_cons_succ]; rfl))
        | (refine mix3_off rfl rfl (mix3_norm (a' := ?_) ?_ ?_)
           rotate_left
           focus (simp only [Act.put, List.getElem_toArray, List.getElem_cons_zero, List.getElem_cons_succ, List.setIfInBounds_toArray, List.set_cons_zero, List.set_cons_succ]; rfl)))
      refine mix3_done ?_
      clear q0 q1 q2 q3 q4 c0 x0 x1 d0 d1
      go_wp2_with fail
      case roundEnd =>
        exact ⟨⟨k + 1, by omega, by push_cast; rfl, Lib.hid (Hb.out.trans (HB.out.mono (B' := w2.heap.size) Hb.out.size))⟩, by simp only [intOf]; omega⟩
    · obtain rfl : k = σ.ps.length := by omega
      go_wp2_with fail
      go_ret
      exact ⟨rfl, Hb1.out.trans (Hb.out.mono (B' := w.heap.size) Hb1.out.size)⟩
end Go.Proofs.Ytiolfnnkkflaiaa
