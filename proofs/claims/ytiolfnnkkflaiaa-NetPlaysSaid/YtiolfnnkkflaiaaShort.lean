/- Acts in memory; acts that are few and short. -/
import Derived.Test.YtiolfnnkkflaiaaAlike
open Go.RowKit
namespace Go.Proofs.Ytiolfnnkkflaiaa

def avs (ls : List ActV) : List Value := ls.flatMap fun a => a.cells.toList
theorem avs_cons (a : ActV) (ls : List ActV) : avs (a :: ls) = .int .i64 a.k :: .int .i64 a.to :: .int .i64 a.i :: .int .i64 a.n :: .string a.b :: avs ls := rfl
theorem avs_length (ls : List ActV) : (avs ls).length = ls.length * 5 := by
  induction ls with
  | nil => rfl
  | cons a ls ih => rw [avs_cons]; simp [ih]; omega
theorem avs_get (ls : List ActV) : ∀ (k : Nat) (hk : k < ls.length), (avs ls)[k * 5]? = some (.int .i64 ls[k].k) ∧ (avs ls)[k * 5 + 1]? = some (.int .i64 ls[k].to) ∧ (avs ls)[k * 5 + 2]? = some (.int .i64 ls[k].i) ∧ (avs ls)[k * 5 + 3]? = some (.int .i64 ls[k].n) ∧ (avs ls)[k * 5 + 4]? = some (.string ls[k].b) := by
  induction ls with
  | nil => intro k hk; simp at hk
  | cons a ls ih =>
    intro k hk
    cases k with
    | zero => exact ⟨rfl, rfl, rfl, rfl, rfl⟩
    | succ k =>
      obtain ⟨h0, h1, h2, h3, h4⟩ := ih k (by simpa using hk)
      rw [avs_cons, show (k + 1) * 5 = k * 5 + 5 by omega]
      exact ⟨h0, h1, h2, h3, h4⟩
def shortB (ls : List ActV) : Bool := decide (ls.length ≤ 150) && ls.all fun a => decide (a.b.size ≤ 200)
theorem shortB_long {ls : List ActV} (h : 150 < ls.length) : shortB ls = false := by unfold shortB; rw [decide_eq_false (by omega)]; rfl
theorem shortB_bad {ls : List ActV} {k : Nat} (hk : k < ls.length) (h : 200 < ls[k].b.size) : shortB ls = false := by
  unfold shortB
  rw [Bool.and_eq_false_iff]; right
  rw [List.all_eq_false]
  exact ⟨ls[k], List.getElem_mem _, by simp; omega⟩
theorem shortB_ok {ls : List ActV} (h : ls.length ≤ 150) (hk : ∀ k (hk : k < ls.length), ls[k].b.size ≤ 200) : shortB ls = true := by
  unfold shortB
  rw [decide_eq_true h, Bool.true_and, List.all_eq_true]
  intro a ha
  obtain ⟨k, hk', rfl⟩ := List.mem_iff_getElem.1 ha
  exact decide_eq_true (hk k hk')
theorem shortB_len {ls : List ActV} (h : shortB ls = true) : ls.length ≤ 150 := by
  unfold shortB at h
  rw [Bool.and_eq_true] at h
  exact of_decide_eq_true h.1

theorem addr_field (a : Addr) (n m : Nat) (h : 0 < m) : (⟨(a.add n).block, (a.add n).off + m, none⟩ : Addr) = a.add (n + m) := by
  unfold Addr.add
  by_cases hn : n = 0
  · subst hn; simp; omega
  · simp [hn]; omega
/-- One act, in its cells. -/
theorem act_cells {w : World} {A : Option Addr} {ls : List ActV} (h : Reads w 5 A ls.length (avs ls)) {k : Nat} (hk : k < ls.length) : ∃ ad : Addr, A = some ad ∧ w.cell? (ad.add (k * 5)) = some (.int .i64 ls[k].k) ∧ w.cell? ⟨(ad.add (k * 5)).block, (ad.add (k * 5)).off + 1, none⟩ = some (.int .i64 ls[k].to) ∧
    w.cell? ⟨(ad.add (k * 5)).block, (ad.add (k * 5)).off + 2, none⟩ = some (.int .i64 ls[k].i) ∧ w.cell? ⟨(ad.add (k * 5)).block, (ad.add (k * 5)).off + 3, none⟩ = some (.int .i64 ls[k].n) ∧ w.cell? ⟨(ad.add (k * 5)).block, (ad.add (k * 5)).off + 4, none⟩ = some (.string ls[k].b) := by
  obtain ⟨ad, rfl, hc⟩ := h.2 (by omega)
  obtain ⟨h0, h1, h2, h3, h4⟩ := avs_get ls k hk
  refine ⟨ad, rfl, hc _ _ h0, ?_, ?_, ?_, ?_⟩
  · rw [addr_field _ _ 1 (by omega)]; exact hc _ _ h1
  · rw [addr_field _ _ 2 (by omega)]; exact hc _ _ h2
  · rw [addr_field _ _ 3 (by omega)]; exact hc _ _ h3
  · rw [addr_field _ _ 4 (by omega)]; exact hc _ _ h4

set_option maxRecDepth 100000 in
theorem short_any (w : World) (A : Option Addr) (ls : List ActV) (c : Nat) (hr : Reads w 5 A ls.length (avs ls)) :
    Calls Try.prog 26 #[.slice A ls.length c] w fun e w' => e = .returned (.bool (shortB ls)) ∧ w = w' := by
  have Hr := Lib.hid hr
  clear hr
  by_cases hl : 150 < ls.length
  · have H := Lib.hid (shortB_long hl)
    go_enter Try.func26, Try.ntmps26
    go_wp2_with fail
    go_ret
    exact ⟨by rw [H.out]; rfl, rfl⟩
  · go_enter Try.func26, Try.ntmps26
    go_wp2_with fail
    go_loopw [3] (fun i wr => ∃ k : Nat, k ≤ ls.length ∧ i = .int .i64 k ∧ Hid (∀ j (hj : j < ls.length), j < k → ls[j].b.size ≤ 200) ∧ Hid (w = wr)) (fun i _ => ls.length - (intOf i).toNat)
    case atStart => exact ⟨0, Nat.zero_le _, rfl, Lib.hid (fun j _ hj => by omega), Lib.hid rfl⟩
    case round =>
      obtain ⟨k, hk, rfl, Hp, Hw⟩ := hrel
      have hw := Hw.out
      subst hw
      by_cases hlt : k < ls.length
      · obtain ⟨ad, rfl, _, _, _, _, hc⟩ := act_cells Hr.out hlt
        by_cases hb : 200 < ls[k].b.size
        · have H := Lib.hid (shortB_bad hlt hb)
          generalize ls[k].b = b at hb hc
          go_wp2_with fail
          go_ret
          exact ⟨by rw [H.out]; rfl, rfl⟩
        · have H := Lib.hid (show ∀ j (hj : j < ls.length), j < k + 1 → ls[j].b.size ≤ 200 from fun j hj hjk => by
            by_cases h : j = k
            · subst h; omega
            · exact Hp.out j hj (by omega))
          generalize ls[k].b = b at hb hc
          go_wp2_with fail
          case roundEnd =>
            exact ⟨⟨k + 1, by omega, by push_cast; rfl, H, Lib.hid (by trivial)⟩, by simp only [intOf]; omega⟩
      · obtain rfl : k = ls.length := by omega
        have H := Lib.hid (shortB_ok (by omega) (fun j hj => Hp.out j hj hj))
        go_wp2_with fail
        go_ret
        exact ⟨by rw [H.out]; rfl, rfl⟩
end Go.Proofs.Ytiolfnnkkflaiaa
