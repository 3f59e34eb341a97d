/- The law of arks: what must come of fixed calls; whether texts are few, and short. -/
import Derived.Test.YtcahflddafdhfaaArkMath
import Derived.Test.YtcahflddafdhfaaMem
open Go.RowKit
namespace Go.Proofs.Ytcahflddafdhfaa
set_option maxHeartbeats 1000000 in
set_option maxRecDepth 100000 in
theorem fill_any (c : UInt8) (w : World) : Calls Try.prog 27 #[.int .u8 (c.toNat : Int)] w fun e w' => e = .returned (.string (fillS c)) ∧ Below w.heap.size w w' := by
  go_enter Try.func27, Try.ntmps27
  go_wp2_with fail
  go_loopw [3, 4] (fun v i wr => ∃ (k : Nat) (A1 : Option Addr) (c1 : Nat) (L : List UInt8), k ≤ 64 ∧ v = .slice A1 L.length c1 ∧ i = .int .i64 k ∧ Hid (L = List.replicate k c) ∧ Hid (OwnB wr w.heap.size A1 c1 L) ∧ Hid (Below w.heap.size w wr)) (fun _ i _ => 64 - (intOf i).toNat)
  case atStart => exact ⟨0, none, 0, [], Nat.zero_le _, rfl, rfl, Lib.hid rfl, Lib.hid (OwnB.nil _ _), Lib.hid (Below.refl _ _)⟩
  case round =>
    obtain ⟨k, A1, c1, L, hk, rfl, rfl, HL, HO, Hb⟩ := hrel
    by_cases hlt : k < 64
    · have Hrb := Lib.hid (show Reads (wr.alloc (.cells #[.int .u8 (c.toNat : Int)] 5)) 1 (some ⟨wr.heap.size, 0, none⟩) [c].length (bv [c]) from Reads.of_block (n := 1) (heap_alloc_new _ _) rfl)
      have Hlen := Lib.hid (show L.length + [c].length ≤ 140737488355328 by rw [HL.out]; simp; omega)
      have Hsz := Lib.hid Hb.out.size
      go_wp2_with (at_builtin; refine wpList_append_bytes w w.heap.size rfl (.tmp 9) (.tmp 11) rfl A1 c1 L rfl (HO.out.alloc _) (some ⟨wr.heap.size, 0, none⟩) 1 [c] rfl Hrb.out Hlen.out (Hb.out.alloc Hsz.out _) (by have := Hsz.out; simp; omega) ?_)
      intro A2 c2 L2 w2 hL2 how2 hb2 hB2
      have Ho2 := Lib.hid how2
      have Hb2 := Lib.hid hb2
      have HL2 := Lib.hid (show L2 = List.replicate (k + 1) c by rw [hL2.out, HL.out, List.replicate_succ'])
      clear how2 hb2 hL2
      go_wp2_with fail
      case roundEnd =>
        exact ⟨⟨k + 1, A2, c2, L2, by omega, rfl, by push_cast; rfl, HL2, Ho2, Hb2⟩, by simp only [intOf]; omega⟩
    · obtain rfl : k = 64 := by omega
      have hcv : (convert 25 9 (.slice A1 L.length c1)).run Try.prog wr = .ok (.string ⟨L.toArray⟩) wr := run_string_of_bytes c1 HO.out.reads
      have HF := Lib.hid (show (⟨L.toArray⟩ : ByteArray) = fillS c by rw [HL.out]; rfl)
      go_wp2_with fail
      go_ret
      exact ⟨by rw [← HF.out]; rfl, Hb.out⟩
theorem zero_any (w : World) : Calls Try.prog 26 #[] w fun e w' => e = .returned (.string (fillS 0)) ∧ Below w.heap.size w w' := by
  have H := Lib.hid (fill_any 0 w)
  go_enter Try.func26, Try.ntmps26
  go_wp2_with fail
  refine H.out.mono ?_
  rintro e w1 ⟨rfl, hb⟩
  have Hb := Lib.hid hb
  clear hb
  go_wp2_with fail
  go_ret
  exact ⟨rfl, Hb.out⟩
theorem brow_cap {w : World} {A : Option Addr} {c : Nat} {l : List UInt8} (h : BRow w A c l) : l.length ≤ c := by
  obtain ⟨A', c', e, h1⟩ := own_slice h
  injection e with e1 e2 e3
  omega
set_option maxHeartbeats 4000000 in
set_option maxRecDepth 100000 in
theorem known_any (w : World) : Calls Try.prog 10 #[] w fun e w' => e = .returned (.bool true) ∧ Below w.heap.size w w' := by
  have HP0 := Lib.hid (fun w => arkPack_any none [] 0 w (Reads.nil _ _ _) (Nat.le_refl _) (by decide))
  rw [nil_pack.1, nil_pack.2] at HP0
  have HZ := Lib.hid (fun w => zero_any w)
  have HF := Lib.hid (fun w => fill_any 1 w)
  have HP := Lib.hid (fun A c w h1 h2 => arkPack_any A kI c w h1 h2 (by decide))
  rw [kI_pack.1, kI_pack.2] at HP
  have HU := Lib.hid (fun A c w h1 h2 => arkUnpack_any A (packL kI) c w h1 h2 (by rw [kI_pack.2]; decide))
  rw [(unE_pack kI_pack.1).1, (unE_pack kI_pack.1).2, kI_pack.2, show kI.length = 3 from rfl] at HU
  have HC := Lib.hid (fun A c w h1 h2 => arkCount_any A kI c w h1 h2 (by decide))
  rw [kI_runs, show kI.length = 3 from rfl, show [(fillS 0, 2), (fillS 1, 1)].length = 2 from rfl] at HC
  go_enter Try.func10, Try.ntmps10
  go_wp2_with fail
  refine (HP0.out w).mono ?_
  rintro e w1 ⟨A1, c1, rfl, h1⟩
  have HB := Lib.hid h1.2.2
  clear h1
  go_wp2_with fail
  refine (HZ.out w1).mono ?_
  rintro e w2 ⟨rfl, hb⟩
  have HB := Lib.hid (HB.out.trans (hb.mono HB.out.size))
  clear hb
  go_wp2_with fail
  refine (HZ.out w2).mono ?_
  rintro e w3 ⟨rfl, hb⟩
  have HB := Lib.hid (HB.out.trans (hb.mono HB.out.size))
  clear hb
  go_wp2_with fail
  refine (HF.out w3).mono ?_
  rintro e w4 ⟨rfl, hb⟩
  have HB := Lib.hid (HB.out.trans (hb.mono HB.out.size))
  clear hb
  go_wp2_with fail
  have HR := Lib.hid (show Reads (w4.alloc (.cells #[.string (fillS 0), .string (fillS 0), .string (fillS 1)] 9)) 1 (some ⟨w4.heap.size, 0, none⟩) kI.length (sts kI) from Reads.of_block (n := 3) (heap_alloc_new _ _) rfl)
  have HB := Lib.hid (HB.out.alloc HB.out.size (.cells #[.string (fillS 0), .string (fillS 0), .string (fillS 1)] 9))
  refine (HP.out _ 3 _ HR.out (by decide)).mono ?_
  rintro e w5 ⟨A5, c5, rfl, h5⟩
  have HO := Lib.hid h5.1
  have HB := Lib.hid (HB.out.trans (h5.2.2.mono HB.out.size))
  clear h5 HR
  go_wp2_with fail
  refine (HU.out A5 c5 w5 (by have h := HO.out.reads; rwa [kI_pack.2] at h) (by have h := brow_cap HO.out; rwa [kI_pack.2] at h)).mono ?_
  rintro e w6 ⟨A6, c6, rfl, h6⟩
  have HT := Lib.hid h6.1
  have HB := Lib.hid (HB.out.trans (h6.2.2.mono HB.out.size))
  obtain ⟨g, rfl, hg⟩ := h6.1.form (by decide)
  clear h6
  have HFF : ((fillS 1).toList == (fillS 1).toList) = true := beq_self_eq_true _
  go_wp2_with fail
  have HT := Lib.hid (show SRow w6.drew (some ⟨g, 0, none⟩) c6 kI from HT.out.below ⟨rfl, rfl, rfl, Nat.le_refl _, fun _ _ => rfl⟩)
  have HB := Lib.hid (show Below w.heap.size w w6.drew from HB.out.trans ⟨rfl, rfl, rfl, Nat.le_refl _, fun _ _ => rfl⟩)
  have dk : ∀ w', KeepsBut [] w6.drew w' → w'.cell? ⟨g, 2, none⟩ = some (.string (fillS 1)) := fun w' h => h.cell (by
    obtain ⟨ad, h2, h3⟩ := str_cell HT.out.reads (k := 2) (by decide)
    injection h2 with h2
    subst h2
    exact h3) (by simp)
  refine wp_region_mix3 (KeepsBut []) (KeepsBut.refl []) (KeepsBut.trans []) [] [(0, 0), (0, 1), (0, 2), (0, 3), (0, 4), (0, 5), (0, 6), (0, 7), (0, 8), (0, 9), (0, 10), (0, 11), (0, 12), (0, 13), (0, 14), (0, 15), (0, 16), (0, 17), (0, 18), (0, 19), (0, 20), (0, 21), (0, 22), (0, 23), (1, 24), (2, 25), (0, 26), (0, 27), (0, 28), (0, 29), (0, 30), (0, 31), (0, 32), (0, 33), (2, 34), (0, 35), (0, 36), (0, 37)] (by kernel_rfl) (by kernel_rfl) (fun d _ _ _ _ h => by cases d <;> exact h) ?_
  generalize w6.drew = wd at HT HB dk ⊢
  repeat (first
    | (refine mix3_free (v := ?_) rfl rfl ?_ (mix3_norm (a' := ?_) ?_ ?_)
       rotate_left
       focus (intro w'; go_simp; first | done | (with_reducible rfl))
       rotate_left
       focus (simp only [Act.put, List.getElem_toArray, List.getElem_cons_zero, List.getElem_cons_succ, List.setIfInBounds_toArray, List.set_cons_zero, List.set_cons_succ]; rfl))
    | (refine mix3_pure (v := ?_) rfl rfl ?_ (mix3_norm (a' := ?_) ?_ ?_)
       rotate_left
       focus (intro w' hR; go_simp; first | done | (with_reducible rfl))
       rotate_left
       focus (simp only [Act.put, List.getElem_toArray, List.getElem_cons_zero, List.getElem_cons_succ, List.setIfInBounds_toArray, List.set_cons_zero, List.set_cons_succ]; rfl))
    | (refine mix3_freeOff rfl rfl (mix3_norm (a' := ?_) ?_ ?_)
       rotate_left
       focus (simp only [Act.put, List.getElem_toArray, List.getElem_cons_zero, List.getElem_cons_succ, List.setIfInBounds_toArray, List.set_cons_zero, List.set_cons_succ]; rfl))
    | (refine mix3_off rfl rfl (mix3_norm (a' := ?_) ?_ ?_)
       rotate_left
       focus (simp only [Act.put, List.getElem_toArray, List.getElem_cons_zero, List.getElem_cons_succ, List.setIfInBounds_toArray, List.set_cons_zero, List.set_cons_succ]; rfl)))
  clear dk
  refine mix3_eff rfl ?_
  simp only [List.getElem_toArray, List.getElem_cons_zero, List.getElem_cons_succ]
  go_wp2_with fail
  refine (HF.out wd).mono ?_
  rintro e w7 ⟨rfl, hb⟩
  have HT := Lib.hid (HT.out.below hb)
  have HB := Lib.hid (HB.out.trans (hb.mono HB.out.size))
  go_wp2_with fail
  refine mixQ3_normal (KeepsBut.of_below hb) rfl ?_
  clear hb
  repeat (first
    | (refine mix3_free (v := ?_) rfl rfl ?_ (mix3_norm (a' := ?_) ?_ ?_)
       rotate_left
       focus (intro w'; go_simp; first | done | (with_reducible rfl))
       rotate_left
       focus (simp only [Act.put, List.getElem_toArray, List.getElem_cons_zero, List.getElem_cons_succ, List.setIfInBounds_toArray, List.set_cons_zero, List.set_cons_succ]; rfl))
    | (refine mix3_pure (v := ?_) rfl rfl ?_ (mix3_norm (a' := ?_) ?_ ?_)
       rotate_left
       focus (intro w' hR; go_simp; first | done | (with_reducible rfl))
       rotate_left
       focus (simp only [Act.put, List.getElem_toArray, List.getElem_cons_zero, List.getElem_cons_succ, List.setIfInBounds_toArray, List.set_cons_zero, List.set_cons_succ]; rfl))
    | (refine mix3_freeOff rfl rfl (mix3_norm (a' := ?_) ?_ ?_)
       rotate_left
       focus (simp only [Act.put, List.getElem_toArray, List.getElem_cons_zero, List.getElem_cons_succ, List.setIfInBounds_toArray, List.set_cons_zero, List.set_cons_succ]; rfl))
    | (refine mix3_off rfl rfl (mix3_norm (a' := ?_) ?_ ?_)
       rotate_left
       focus (simp only [Act.put, List.getElem_toArray, List.getElem_cons_zero, List.getElem_cons_succ, List.setIfInBounds_toArray, List.set_cons_zero, List.set_cons_succ]; rfl)))
  refine mix3_eff rfl ?_
  simp only [List.getElem_toArray, List.getElem_cons_zero, List.getElem_cons_succ]
  go_wp2_with fail
  refine (HC.out (some ⟨g, 0, none⟩) c6 w7 HT.out.reads (srow_cap HT.out)).mono ?_
  rintro e w8 ⟨rfl, hb⟩
  have HB := Lib.hid (HB.out.trans (hb.mono HB.out.size))
  go_wp2_with fail
  refine mixQ3_normal (KeepsBut.of_below hb) rfl ?_
  clear hb
  repeat (first
    | (refine mix3_free (v := ?_) rfl rfl ?_ (mix3_norm (a' := ?_) ?_ ?_)
       rotate_left
       focus (intro w'; go_simp; first | done | (with_reducible rfl))
       rotate_left
       focus (simp only [Act.put, List.getElem_toArray, List.getElem_cons_zero, List.getElem_cons_succ, List.setIfInBounds_toArray, List.set_cons_zero, List.set_cons_succ]; rfl))
    | (refine mix3_pure (v := ?_) rfl rfl ?_ (mix3_norm (a' := ?_) ?_ ?_)
       rotate_left
       focus (intro w' hR; go_simp; first | done | (with_reducible rfl))
       rotate_left
       focus (simp only [Act.put, List.getElem_toArray, List.getElem_cons_zero, List.getElem_cons_succ, List.setIfInBounds_toArray, List.set_cons_zero, List.set_cons_succ]; rfl))
    | (refine mix3_freeOff rfl rfl (mix3_norm (a' := ?_) ?_ ?_)
       rotate_left
       focus (simp only [Act.put, List.getElem_toArray, List.getElem_cons_zero, List.getElem_cons_succ, List.setIfInBounds_toArray, List.set_cons_zero, List.set_cons_succ]; rfl))
    | (refine mix3_off rfl rfl (mix3_norm (a' := ?_) ?_ ?_)
       rotate_left
       focus (simp only [Act.put, List.getElem_toArray, List.getElem_cons_zero, List.getElem_cons_succ, List.setIfInBounds_toArray, List.set_cons_zero, List.set_cons_succ]; rfl)))
  refine mix3_done ?_
  go_wp2_with fail
  go_ret
  exact ⟨rfl, HB.out⟩
def fewB (l : List ByteArray) : Bool := decide (l.length ≤ 140) && l.all (fun s => decide (s.size ≤ 200))
theorem fewB_len {l : List ByteArray} (h : fewB l = true) : l.length ≤ 140 := by
  unfold fewB at h
  simp only [Bool.and_eq_true, decide_eq_true_eq] at h
  exact h.1
set_option maxHeartbeats 2000000 in
set_option maxRecDepth 100000 in
theorem few_any (w : World) (A : Option Addr) (l : List ByteArray) (c : Nat) (hr : Reads w 1 A l.length (sts l)) : Calls Try.prog 9 #[.slice A l.length c] w fun e w' => e = .returned (.bool (fewB l)) ∧ w = w' := by
  have Hr := Lib.hid hr
  clear hr
  by_cases h1 : l.length ≤ 140
  · have HV := Lib.hid (show fewB l = l.all (fun s => decide (s.size ≤ 200)) by unfold fewB; rw [decide_eq_true h1]; rfl)
    have h3 : ¬ 140 < l.length := by omega
    go_enter Try.func9, Try.ntmps9
    go_wp2_with fail
    clear h3
    go_loop [3] (fun i => ∃ k : Nat, k ≤ l.length ∧ i = .int .i64 k ∧ Hid ((l.take k).all (fun s => decide (s.size ≤ 200)) = true)) (fun i => l.length - (intOf i).toNat)
    case atStart => exact ⟨0, by omega, rfl, rfl⟩
    case round =>
      obtain ⟨k, hk, rfl, HA⟩ := hrel
      by_cases hlt : k < l.length
      · obtain ⟨ad, rfl, hc⟩ := str_cell Hr.out hlt
        by_cases hsz : l[k].size ≤ 200
        · have HN := Lib.hid (show (l.take (k + 1)).all (fun s => decide (s.size ≤ 200)) = true by rw [List.take_succ_eq_append_getElem hlt, List.all_append, HA.out]; simpa using hsz)
          have hn : ¬ 200 < l[k].size := by omega
          generalize l[k] = y at hc hn
          clear hsz
          go_wp2_with fail
          case roundEnd => exact ⟨⟨k + 1, by omega, by push_cast; rfl, HN⟩, by simp only [intOf]; omega⟩
        · have HN := Lib.hid (show l.all (fun s => decide (s.size ≤ 200)) = false by
            rw [List.all_eq_false]
            exact ⟨_, List.getElem_mem hlt, by simpa using hsz⟩)
          have hn : 200 < l[k].size := by omega
          generalize l[k] = y at hc hn
          clear hsz
          go_wp2_with fail
          go_ret
          exact ⟨by rw [HV.out, HN.out]; rfl, rfl⟩
      · obtain rfl : k = l.length := by omega
        have HN := Lib.hid (show l.all (fun s => decide (s.size ≤ 200)) = true by have h := HA.out; rwa [List.take_length] at h)
        go_wp2_with fail
        go_ret
        exact ⟨by rw [HV.out, HN.out]; rfl, rfl⟩
  · have HV := Lib.hid (show fewB l = false by unfold fewB; rw [decide_eq_false h1]; rfl)
    have h3 : 140 < l.length := by omega
    go_enter Try.func9, Try.ntmps9
    go_wp2_with fail
    go_ret
    exact ⟨by rw [HV.out]; rfl, rfl⟩
end Go.Proofs.Ytcahflddafdhfaa
