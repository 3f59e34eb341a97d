/- The walks of word's laws: each returns true. -/
import Derived.Test.YtlfclpdcingpnaaWordRef
import Derived.Test.YtlfclpdcingpnaaReader
import Derived.Test.YtlfclpdcingpnaaMix
open Go.RowKit
namespace Go.Proofs.Ytlfclpdcingpnaa

theorem k01_put : wPut [] 2 66051 = [2, 3] := by decide +kernel
theorem k01_num : rNum [1, 2, 3] 0 2 = 258 ∧ rNumL [1, 2, 3] 0 2 = [3] ∧ rNumE [1, 2, 3] 0 2 = 0 ∧ rNum [3] 0 2 = 0 ∧ rNumL [3] 0 2 = [3] ∧ rNumE [3] 0 2 = 7 := by decide +kernel

theorem known01_any (w : World) : Calls Try.prog 21 #[] w fun e w' => e = .returned (.bool true) ∧ Below w.heap.size w w' := by
  have hr : Reads (w.alloc (.cells #[.int .u8 1, .int .u8 2, .int .u8 3] 5)) 1 (some ⟨w.heap.size, 0, none⟩) [(1 : UInt8), 2, 3].length (bv [(1 : UInt8), 2, 3]) := Reads.of_block (n := 3) (heap_alloc_new _ _) rfl
  have Hr := Lib.hid hr
  clear hr
  go_enter Try.func21, Try.ntmps21
  go_wp2_with fail
  refine (new_any _ [(1 : UInt8), 2, 3] 3 _ Hr.out (by decide)).mono ?_
  rintro e w1 ⟨g, rfl, hR, hg, hb⟩
  have hR1 := Lib.hid hR
  have hB1 := Lib.hid (((Below.refl w.heap.size w).alloc (Nat.le_refl _) (.cells #[.int .u8 1, .int .u8 2, .int .u8 3] 5)).trans (hb.mono (by simp)))
  have hg' : w.heap.size ≤ g := by simp at hg; omega
  clear hR hb hg Hr
  go_wp2_with fail
  refine (num_any g [(1 : UInt8), 2, 3] 0 2 _ hR1.out).mono ?_
  rw [k01_num.1, k01_num.2.1, k01_num.2.2.1]
  rintro e w2 ⟨rfl, hR, hG⟩
  have hR2 := Lib.hid hR
  have hB2 := Lib.hid (hB1.out.grown hG hB1.out.size (by rintro k ⟨⟩; exact hg'))
  clear hR hG hR1 hB1
  go_wp2_with fail
  refine (num_any g [(3 : UInt8)] 0 2 _ hR2.out).mono ?_
  rw [k01_num.2.2.2.1, k01_num.2.2.2.2.1, k01_num.2.2.2.2.2]
  rintro e w3 ⟨rfl, hR, hG⟩
  have hR3 := Lib.hid hR
  have hB3 := Lib.hid (hB2.out.grown hG hB2.out.size (by rintro k ⟨⟩; exact hg'))
  clear hR hG hR2 hB2
  go_wp2_with fail
  refine (put_any none [] 0 2 66051 (by decide) _ (Reads.nil _ _ _) (by decide)).mono ?_
  rw [k01_put]
  rintro e w4 ⟨A4, c4, rfl, how, hb⟩
  have hcv : (convert 22 9 (.slice A4 2 c4)).run Try.prog w4 = .ok (.string ⟨#[2, 3]⟩) w4 := run_string_of_bytes c4 how.reads
  have hR4 := Lib.hid (hR3.out.below hb)
  have hB4 := Lib.hid (below_fresh hB3.out hb)
  clear how hb hR3 hB3
  go_wp2_with fail
  refine (why_any g _ _ _ hR4.out).mono ?_
  rintro e w5 ⟨rfl, rfl⟩
  go_wp2_with fail
  refine (left_any g _ _ _ hR4.out).mono ?_
  rintro e w5 ⟨rfl, rfl⟩
  go_wp2_with fail
  go_ret
  exact ⟨rfl, hB4.out⟩

theorem wordNil_any (x : Int) (w : World) : Calls Try.prog 9 #[.int .i64 x] w fun e w' => e = .returned (.bool true) ∧ Below w.heap.size w w' := by
  go_enter Try.func9, Try.ntmps9
  go_wp2_with fail
  refine (num_nil _ _).mono ?_
  rintro e w1 ⟨rfl, rfl⟩
  go_wp2_with fail
  refine (bytes_nil _ _).mono ?_
  rintro e w1 ⟨rfl, rfl⟩
  go_wp2_with fail
  refine (left_nil _).mono ?_
  rintro e w1 ⟨rfl, rfl⟩
  go_wp2_with fail
  refine (why_nil _).mono ?_
  rintro e w1 ⟨rfl, rfl⟩
  go_wp2_with fail
  refine (known01_any _).mono ?_
  rintro e w1 ⟨rfl, hb⟩
  go_wp2_with fail
  go_ret
  exact ⟨rfl, hb⟩

theorem wordPuts_any (A : Option Addr) (l : List UInt8) (c : Nat) (x : Int) (n : Nat) (hn : n < 18446744073709551616) (k : Int) (w : World) (hr : Reads w 1 A l.length (bv l)) (hc : l.length ≤ c) (hm : l.length ≤ maxLen) (hl : l.length + 8 ≤ 140737488355328) :
    Calls Try.prog 6 #[.slice A l.length c, .int .i64 x, .int .u64 n, .int .i64 k] w fun e w' => e = .returned (.bool true) ∧ Below w.heap.size w w' := by
  have Hn := Lib.hid hn
  have Hr := Lib.hid hr
  have Hm := Lib.hid hm
  obtain ⟨s1, hs⟩ : ∃ s : ByteArray, (⟨(wPut l x n).toArray⟩ : ByteArray) = s := ⟨_, rfl⟩
  have Hs := Lib.hid hs
  clear hn hr hm hs
  go_enter Try.func6, Try.ntmps6
  go_wp2_with fail
  refine (get_any A l c k x w Hr.out hc Hm.out).mono ?_
  rintro e w1 ⟨rfl, rfl⟩
  go_wp2_with fail
  refine (refGet_any A l c k x w Hr.out Hm.out).mono ?_
  rintro e w1 ⟨rfl, rfl⟩
  go_wp2_with fail
  refine wp_region_mix (KeepsBut []) (KeepsBut.refl []) (KeepsBut.trans []) [] [(true, 0), (true, 1), (true, 2), (true, 5), (true, 6), (true, 7), (false, 3), (true, 4), (false, 8), (true, 9), (true, 10), (true, 11), (true, 12), (true, 13), (true, 14), (true, 15), (true, 16), (true, 17), (true, 18), (true, 19), (true, 20), (true, 21), (false, 22), (true, 23), (true, 24)] (by kernel_rfl) (by kernel_rfl) (fun d _ _ _ _ h => by cases d <;> exact h) ?_
  repeat (first
    | (refine mix_pure (v := ?_) rfl rfl ?_ (mix_norm (a' := ?_) ?_ ?_)
       rotate_left
       focus (intro w' hR; go_simp; first | done | (with_reducible rfl))
       rotate_left
       focus (simp only [Act.put, List.getElem_toArray, List.getElem_cons_zero, List.getElem_cons_succ, List.setIfInBounds_toArray, List.set_cons_zero, List.set_cons_succ]; rfl))
    | (refine mix_off rfl rfl (mix_norm (a' := ?_) ?_ ?_)
       rotate_left
       focus (simp only [Act.put, List.getElem_toArray, List.getElem_cons_zero, List.getElem_cons_succ, List.setIfInBounds_toArray, List.set_cons_zero, List.set_cons_succ]; rfl)))
  refine mix_eff rfl ?_
  simp only [List.getElem_toArray, List.getElem_cons_zero, List.getElem_cons_succ]
  go_wp2_with fail
  refine (put_any A l c x n Hn.out _ Hr.out.drew hl).mono ?_
  rintro e w1 ⟨A1, c1, rfl, how1, hb1⟩
  go_wp2_with fail
  refine mixQ_normal (KeepsBut.of_below hb1) rfl ?_
  have hcv1 : ∀ w', KeepsBut [] w1 w' → (convert 22 9 (.slice A1 (wPut l x n).length c1)).run Try.prog w' = .ok (.string s1) w' := fun w' hk => by
    rw [← Hs.out]; exact run_string_of_bytes c1 (how1.reads.keep fun p u hp => hk.cell hp (by simp))
  repeat (first
    | (refine mix_pure (v := ?_) rfl rfl ?_ (mix_norm (a' := ?_) ?_ ?_)
       rotate_left
       focus (intro w' hR; go_simp; first | done | (with_reducible rfl))
       rotate_left
       focus (simp only [Act.put, List.getElem_toArray, List.getElem_cons_zero, List.getElem_cons_succ, List.setIfInBounds_toArray, List.set_cons_zero, List.set_cons_succ]; rfl))
    | (refine mix_off rfl rfl (mix_norm (a' := ?_) ?_ ?_)
       rotate_left
       focus (simp only [Act.put, List.getElem_toArray, List.getElem_cons_zero, List.getElem_cons_succ, List.setIfInBounds_toArray, List.set_cons_zero, List.set_cons_succ]; rfl)))
  refine mix_eff rfl ?_
  simp only [List.getElem_toArray, List.getElem_cons_zero, List.getElem_cons_succ]
  go_wp2_with fail
  refine (refPut_any A l c x n Hn.out _ (Hr.out.drew.below hb1) hl).mono ?_
  rintro e w2 ⟨A2, c2, rfl, how2, hb2⟩
  go_wp2_with fail
  refine mixQ_normal (KeepsBut.of_below hb2) rfl ?_
  have hcv2 : ∀ w', KeepsBut [] w2 w' → (convert 22 9 (.slice A2 (wPut l x n).length c2)).run Try.prog w' = .ok (.string s1) w' := fun w' hk => by
    rw [← Hs.out]; exact run_string_of_bytes c2 (how2.reads.keep fun p u hp => hk.cell hp (by simp))
  clear hcv1
  repeat (first
    | (refine mix_pure (v := ?_) rfl rfl ?_ (mix_norm (a' := ?_) ?_ ?_)
       rotate_left
       focus (intro w' hR; go_simp; first | done | (with_reducible rfl))
       rotate_left
       focus (simp only [Act.put, List.getElem_toArray, List.getElem_cons_zero, List.getElem_cons_succ, List.setIfInBounds_toArray, List.set_cons_zero, List.set_cons_succ]; rfl))
    | (refine mix_off rfl rfl (mix_norm (a' := ?_) ?_ ?_)
       rotate_left
       focus (simp only [Act.put, List.getElem_toArray, List.getElem_cons_zero, List.getElem_cons_succ, List.setIfInBounds_toArray, List.set_cons_zero, List.set_cons_succ]; rfl)))
  refine mix_eff rfl ?_
  simp only [List.getElem_toArray, List.getElem_cons_zero, List.getElem_cons_succ]
  go_wp2_with fail
  refine (known01_any _).mono ?_
  rintro e w3 ⟨rfl, hb3⟩
  go_wp2_with fail
  refine mixQ_normal (KeepsBut.of_below hb3) rfl ?_
  clear hcv2
  repeat (first
    | (refine mix_pure (v := ?_) rfl rfl ?_ (mix_norm (a' := ?_) ?_ ?_)
       rotate_left
       focus (intro w' hR; go_simp; first | done | (with_reducible rfl))
       rotate_left
       focus (simp only [Act.put, List.getElem_toArray, List.getElem_cons_zero, List.getElem_cons_succ, List.setIfInBounds_toArray, List.set_cons_zero, List.set_cons_succ]; rfl))
    | (refine mix_off rfl rfl (mix_norm (a' := ?_) ?_ ?_)
       rotate_left
       focus (simp only [Act.put, List.getElem_toArray, List.getElem_cons_zero, List.getElem_cons_succ, List.setIfInBounds_toArray, List.set_cons_zero, List.set_cons_succ]; rfl)))
  refine mix_done ?_
  go_wp2
  go_ret
  exact ⟨rfl, below_fresh (below_fresh (below_fresh (Below.refl _ _).drew hb1) hb2) hb3⟩

end Go.Proofs.Ytlfclpdcingpnaa
