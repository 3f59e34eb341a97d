/- The reference's find and Then, walked. -/
import Derived.Test.YtjlecfckcciagaaThenMath
import Derived.Test.YtjlecfckcciagaaMix3
open Go.RowKit
namespace Go.Proofs.Ytjlecfckcciagaa
set_option maxHeartbeats 2000000 in
set_option maxRecDepth 100000 in
theorem refFind_any (w : World) (A : Option Addr) (l : List (Int × ByteArray)) (c : Nat) (x : Int) (hr : Reads w 2 A l.length (pks l)) (hl : l.length ≤ 100000) :
    Calls Try.prog 19 #[.slice A l.length c, .int .i64 x] w fun e w' => ∃ y s, e = .returned (.tuple #[.agg #[.int .i64 y, .string s], .bool (firstOf l x).isSome]) ∧ Below w.heap.size w w' := by
  obtain ⟨hb, hg, hs⟩ := alloc1 w #[.int .i64 0, .string ⟨#[]⟩] 35
  have Hr := Lib.hid (hr.below hb)
  have HB := Lib.hid hb
  have HG := Lib.hid hg
  clear hr hb hg hs
  go_enter Try.func19, Try.ntmps19
  go_wp2_with fail
  generalize hwz : w.alloc _ = wz at Hr HB HG ⊢
  clear hwz
  go_loopw [6] (fun i wr => ∃ k : Nat, k ≤ l.length ∧ i = .int .i64 k ∧ Hid (firstOf (l.drop k) x = firstOf l x) ∧ Hid (wz = wr)) (fun i _ => l.length - (intOf i).toNat)
  case atStart => exact ⟨0, Nat.zero_le _, rfl, Lib.hid rfl, Lib.hid rfl⟩
  case round =>
    obtain ⟨k, hk, rfl, HF, Hw⟩ := hrel
    have hw := Hw.out
    subst hw
    by_cases hlt : k < l.length
    · obtain ⟨ad, rfl, d0, d1⟩ := put_cells Hr.out hlt
      rw [drop_at hlt, firstOf] at HF
      generalize l[k] = p at d0 d1 HF
      obtain ⟨y, s⟩ := p
      simp only at d0 d1 HF
      obtain ⟨b0, b1, f0, f1⟩ := cells2 HG.out
      by_cases hyx : y = x
      · subst hyx
        rw [if_pos rfl] at HF
        have hbb : (y == y) = true := beq_self_eq_true _
        have HE := Lib.hid (set2 HG.out (.int .i64 y) (.string s))
        go_wp2_with fail
        try simp only [Exit.inBlock, Exit.then]
        refine bodyPost_ret (results_cell_tmp_row rfl _ _ w.heap.size _ _ _ _ rfl HE.out Try.underlying35 rfl (by kernel_rfl)) rfl ⟨⟨y, s, by rw [← HF.out]; rfl⟩, below_set2 HB.out (Nat.le_refl _) _ _⟩
      · rw [if_neg hyx] at HF
        have hbb : (y == x) = false := by rw [beq_eq_false_iff_ne]; exact hyx
        clear hyx
        go_wp2_with fail
        case roundEnd => exact ⟨⟨k + 1, by omega, by push_cast; rfl, HF, Lib.hid (by trivial)⟩, by simp only [intOf]; omega⟩
    · obtain rfl : k = l.length := by omega
      obtain ⟨b0, b1, f0, f1⟩ := cells2 HG.out
      have HE := Lib.hid (set2 HG.out (.int .i64 0) (.string ⟨#[]⟩))
      have HN := Lib.hid (show firstOf l x = none by rw [← HF.out, List.drop_length]; rfl)
      go_wp2_with fail
      try simp only [Exit.inBlock, Exit.then]
      refine bodyPost_ret (results_cell_tmp_row rfl _ _ w.heap.size _ _ _ _ rfl HE.out Try.underlying35 rfl (by kernel_rfl)) rfl ⟨⟨0, ⟨#[]⟩, by rw [HN.out]; rfl⟩, below_set2 HB.out (Nat.le_refl _) _ _⟩
end Go.Proofs.Ytjlecfckcciagaa
