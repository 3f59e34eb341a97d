/- Arks: the reference's count of runs. -/
import Derived.Test.YtcahflddafdhfaaArk5
open Go.RowKit
namespace Go.Proofs.Ytcahflddafdhfaa

def cntR (p : Option ByteArray) : List ByteArray → Nat
  | [] => 0
  | x :: l => (if p = some x then 0 else 1) + cntR (some x) l
theorem cntR_lead (x : ByteArray) : ∀ l : List ByteArray, cntR (some x) l = cntR (some x) (l.drop (lead x l))
  | [] => by simp
  | y :: l => by
    by_cases h : y = x
    · subst h
      have e : lead y (y :: l) = lead y l + 1 := by rw [lead, if_pos rfl]
      rw [e, List.drop_succ_cons, ← cntR_lead y l]
      simp [cntR]
    · have e : lead x (y :: l) = 0 := by rw [lead, if_neg h]
      rw [e, List.drop_zero]
theorem cntR_stop (x : ByteArray) (l : List ByteArray) (h : l[0]? ≠ some x) : cntR (some x) l = cntR none l := by
  cases l with
  | nil => rfl
  | cons y l =>
    have hy : ¬ x = y := fun e => h (by simp [e])
    simp [cntR, hy]
theorem cntR_runs : ∀ l : List ByteArray, cntR none l = (runsOf l).length := by
  have key : ∀ (n : Nat) (l : List ByteArray), l.length ≤ n → cntR none l = (runsOf l).length := by
    intro n
    induction n with
    | zero =>
      intro l h
      have h0 : l = [] := List.eq_nil_of_length_eq_zero (by omega)
      subst h0
      rw [runsOf_nil]
      rfl
    | succ n ih =>
      intro l h
      cases l with
      | nil => rw [runsOf_nil]; rfl
      | cons x l =>
        rw [List.length_cons] at h
        rw [runsOf_cons, List.length_cons, ← ih (l.drop (lead x l)) (by rw [List.length_drop]; omega)]
        have h1 : cntR none (x :: l) = 1 + cntR (some x) l := by simp [cntR]
        rw [h1, cntR_lead, cntR_stop x (l.drop (lead x l)) (by rw [List.getElem?_drop]; exact lead_stop x l)]
        omega
  exact fun l => key l.length l (Nat.le_refl _)
def prevR (l : List ByteArray) (k : Nat) : Option ByteArray := if k = 0 then none else l[k - 1]?
theorem wrapI_nat' {n : Nat} (h : n < 9223372036854775808) : IntKind.i64.wrap (n : Int) = (n : Int) := by
  unfold IntKind.wrap; simp [IntKind.bits, IntKind.signed]; omega
theorem cntR_at {l : List ByteArray} {k : Nat} (h : k < l.length) : cntR (prevR l k) (l.drop k) = (if prevR l k = some l[k] then 0 else 1) + cntR (prevR l (k + 1)) (l.drop (k + 1)) := by
  rw [List.drop_eq_getElem_cons h]
  have e : prevR l (k + 1) = some l[k] := by unfold prevR; rw [if_neg (by omega)]; simp [h]
  rw [e]
  rfl
set_option maxHeartbeats 2000000 in
set_option maxRecDepth 100000 in
theorem refCount_any (A : Option Addr) (l : List ByteArray) (c : Nat) (w : World) (hr : Reads w 1 A l.length (sts l)) (hl : l.length ≤ 1000000) :
    Calls Try.prog 14 #[.slice A l.length c] w fun e w' => e = .returned (.int .i64 ((runsOf l).length : Nat)) ∧ Below w.heap.size w w' := by
  have Hr := Lib.hid hr
  have HF := Lib.hid (cntR_runs l)
  clear hr
  go_enter Try.func14, Try.ntmps14
  go_wp2_with fail
  go_loopw [3, 4] (fun n i wr => ∃ k m : Nat, k ≤ l.length ∧ m ≤ k ∧ i = .int .i64 k ∧ n = .int .i64 m ∧ Hid (m + cntR (prevR l k) (l.drop k) = cntR none l) ∧ Hid (Below w.heap.size w wr)) (fun _ i _ => l.length - (intOf i).toNat)
  case atStart => exact ⟨0, 0, Nat.zero_le _, Nat.zero_le _, rfl, rfl, Lib.hid (by rw [List.drop_zero, Nat.zero_add]; rfl), Lib.hid (Below.refl _ _)⟩
  case round =>
    obtain ⟨k, m, hk, hm, rfl, rfl, HC, HB⟩ := hrel
    by_cases hlt : k < l.length
    · obtain ⟨ad, rfl, hc0⟩ := str_cell (Hr.out.below HB.out) hlt
      have HA := Lib.hid (cntR_at hlt)
      by_cases h0 : k = 0
      · subst h0
        have HN := Lib.hid (show m + 1 + cntR (prevR l (0 + 1)) (l.drop (0 + 1)) = cntR none l by
          rw [← HC.out, HA.out, if_neg (by intro h; cases h)]; omega)
        clear hc0
        go_wp2_with fail
        go_quiet (fail)
        go_wp2_with fail
        case roundEnd => exact ⟨⟨0 + 1, m + 1, by omega, by omega, rfl, by push_cast; rfl, HN, Lib.hid (HB.out.trans ⟨rfl, rfl, rfl, Nat.le_refl _, fun _ _ => rfl⟩)⟩, by simp only [intOf]; omega⟩
      · obtain ⟨j, hj⟩ : ∃ j, k = j + 1 := ⟨k - 1, by omega⟩
        have hjn : j < l.length := by omega
        obtain ⟨ad2, h2, hc1⟩ := str_cell (Hr.out.below HB.out) hjn
        injection h2 with h2
        subst h2
        have e3 : k - 1 = j := by omega
        have ep : prevR l k = some l[j] := by
          unfold prevR
          rw [if_neg h0, e3]
          exact List.getElem?_eq_getElem hjn
        rw [ep] at HA
        have hk0 : ((k : Int) == 0) = false := by rw [beq_eq_false_iff_ne]; omega
        have hwj : IntKind.i64.wrap ((k : Int) - 1) = (j : Int) := by
          have h := wrapI_nat' (n := j) (by omega)
          have h2 : (k : Int) - 1 = (j : Int) := by omega
          rw [h2, h]
        have hjl : (j : Int) < (l.length : Int) := by omega
        have HJ := Lib.hid hj
        clear hj h0 e3
        by_cases hxy : l[k] = l[j]
        · have HN := Lib.hid (show m + cntR (prevR l (k + 1)) (l.drop (k + 1)) = cntR none l by
            rw [← HC.out, ep, HA.out, if_pos (by rw [hxy])]; omega)
          rw [hxy] at hc0
          clear hxy ep HA
          generalize l[j] = y at hc0 hc1
          have hyy : (y.toList == y.toList) = true := beq_self_eq_true _
          go_wp2_with fail
          go_quiet (fail)
          clear hyy
          clear hc0 hc1 hk0 hwj hjl
          go_wp2_with fail
          case roundEnd => exact ⟨⟨k + 1, m, by omega, by omega, by push_cast; rfl, rfl, HN, Lib.hid (HB.out.trans ⟨rfl, rfl, rfl, Nat.le_refl _, fun _ _ => rfl⟩)⟩, by simp only [intOf]; omega⟩
        · have HN := Lib.hid (show m + 1 + cntR (prevR l (k + 1)) (l.drop (k + 1)) = cntR none l by
            rw [← HC.out, ep, HA.out, if_neg (fun e => hxy (Option.some.inj e).symm)]; omega)
          have hne : (l[k].toList == l[j].toList) = false := by rw [beq_eq_false_iff_ne]; exact fun e => hxy (str_inj e)
          clear hxy ep HA
          generalize l[j] = y at hc1 hne
          generalize l[k] = x at hc0 hne
          go_wp2_with fail
          go_quiet (fail)
          clear hne
          clear hc0 hc1 hk0 hwj hjl
          go_wp2_with fail
          case roundEnd => exact ⟨⟨k + 1, m + 1, by omega, by omega, by push_cast; rfl, by push_cast; rfl, HN, Lib.hid (HB.out.trans ⟨rfl, rfl, rfl, Nat.le_refl _, fun _ _ => rfl⟩)⟩, by simp only [intOf]; omega⟩
    · obtain rfl : k = l.length := by omega
      have HN := Lib.hid (show m = (runsOf l).length by
        have h := HC.out
        rw [List.drop_length] at h
        rw [← HF.out, ← h]
        rfl)
      go_wp2_with fail
      go_ret
      exact ⟨by rw [HN.out]; rfl, HB.out⟩
end Go.Proofs.Ytcahflddafdhfaa
