/- Puts that can be: in order, in bounds, sectors. -/
import Derived.Test.YtjlecfckcciagaaDel1
open Go.RowKit
namespace Go.Proofs.Ytjlecfckcciagaa

def rightFrom : Int → List (Int × ByteArray) → Bool
  | _, [] => true
  | z, p :: ps => decide (z < p.1) && decide (p.1 < 128) && rightS p.2 && rightFrom p.1 ps
def rightP (l : List (Int × ByteArray)) : Bool := rightFrom (-1) l
theorem rightFrom_low {z x : Int} {s : ByteArray} {ps : List (Int × ByteArray)} (h : x ≤ z) : rightFrom z ((x, s) :: ps) = false := by
  unfold rightFrom; rw [decide_eq_false (show ¬ z < x by omega)]; rfl
theorem rightFrom_high {z x : Int} {s : ByteArray} {ps : List (Int × ByteArray)} (h : 128 ≤ x) : rightFrom z ((x, s) :: ps) = false := by
  unfold rightFrom; rw [decide_eq_false (show ¬ (x, s).1 < 128 by simp only; omega)]; simp
theorem rightFrom_odd {z x : Int} {s : ByteArray} {ps : List (Int × ByteArray)} (h : rightS s = false) : rightFrom z ((x, s) :: ps) = false := by
  unfold rightFrom; simp [h]
theorem rightFrom_step {z x : Int} {s : ByteArray} {ps : List (Int × ByteArray)} (h1 : ¬ x ≤ z) (h2 : ¬ 128 ≤ x) (h3 : rightS s = true) : rightFrom z ((x, s) :: ps) = rightFrom x ps := by
  rw [rightFrom, decide_eq_true (show z < x by omega), decide_eq_true (show x < 128 by omega), h3]; rfl
theorem drop_at {α : Type} {l : List α} {k : Nat} (hk : k < l.length) : l.drop k = l[k] :: l.drop (k + 1) := List.drop_eq_getElem_cons hk

set_option maxHeartbeats 1000000 in
set_option maxRecDepth 100000 in
theorem delRight_any (w : World) (A : Option Addr) (l : List (Int × ByteArray)) (c : Nat) (hr : Reads w 2 A l.length (pks l)) (hl : l.length ≤ 100000) :
    Calls Try.prog 14 #[.slice A l.length c] w fun e w' => e = .returned (.bool (rightP l)) ∧ Below w.heap.size w w' := by
  have Hr := Lib.hid hr
  clear hr
  go_enter Try.func14, Try.ntmps14
  go_wp2_with fail
  go_loopw [3, 8] (fun z i wr => ∃ (k : Nat) (y : Int), k ≤ l.length ∧ z = .int .i64 y ∧ i = .int .i64 k ∧ Hid (rightFrom y (l.drop k) = rightP l) ∧ Hid (Below w.heap.size w wr)) (fun _ i _ => l.length - (intOf i).toNat)
  case atStart => exact ⟨0, -1, Nat.zero_le _, rfl, rfl, Lib.hid rfl, Lib.hid (Below.refl _ _)⟩
  case round =>
    obtain ⟨k, y, hk, rfl, rfl, HR, Hb⟩ := hrel
    by_cases hlt : k < l.length
    · obtain ⟨ad, rfl, d0, d1⟩ := put_cells (Hr.out.below Hb.out) hlt
      rw [drop_at hlt] at HR
      generalize l[k] = p at d0 d1 HR
      obtain ⟨x, s⟩ := p
      simp only at d0 d1
      obtain ⟨hb1, hg1, hs1⟩ := alloc1 wr #[.int .i64 x, .string s] 35
      obtain ⟨q0, q1, _, _⟩ := cells2 hg1
      have Hb1 := Lib.hid (Hb.out.trans (hb1.mono (B' := w.heap.size) Hb.out.size))
      clear hb1 hg1 hs1
      by_cases h1 : x ≤ y
      · have HF := Lib.hid (HR.out.symm.trans (rightFrom_low h1))
        go_wp2_with fail
        go_ret
        exact ⟨by rw [HF.out]; rfl, Hb1.out⟩
      · by_cases h2 : 128 ≤ x
        · have HF := Lib.hid (HR.out.symm.trans (rightFrom_high h2))
          go_wp2_with fail
          go_ret
          exact ⟨by rw [HF.out]; rfl, Hb1.out⟩
        · have HS := Lib.hid (secRight_any s (wr.alloc (.cells #[.int .i64 x, .string s] 35)))
          cases h3 : rightS s with
          | false =>
            have HF := Lib.hid (HR.out.symm.trans (rightFrom_odd h3))
            rw [h3] at HS
            clear h3
            go_wp2_with fail
            refine HS.out.mono ?_
            rintro e w3 ⟨rfl, rfl⟩
            go_wp2_with fail
            go_ret
            exact ⟨by rw [HF.out]; rfl, Hb1.out⟩
          | true =>
            have HF := Lib.hid ((rightFrom_step h1 h2 h3).symm.trans HR.out)
            rw [h3] at HS
            clear h3
            go_wp2_with fail
            refine HS.out.mono ?_
            rintro e w3 ⟨rfl, rfl⟩
            go_wp2_with fail
            case roundEnd =>
              exact ⟨⟨k + 1, x, by omega, rfl, by push_cast; rfl, HF, Hb1⟩, by simp only [intOf]; omega⟩
    · obtain rfl : k = l.length := by omega
      have HF := Lib.hid (HR.out.symm.trans (by rw [List.drop_length]; rfl : rightFrom y (l.drop l.length) = true))
      go_wp2_with fail
      go_ret
      exact ⟨by rw [HF.out]; rfl, Hb.out⟩

end Go.Proofs.Ytjlecfckcciagaa
