/- A copy of texts; whether it can be written. -/
import Derived.Test.YtjlecfckcciagaaDel4
open Go.RowKit
namespace Go.Proofs.Ytjlecfckcciagaa

set_option maxHeartbeats 1000000 in
set_option maxRecDepth 100000 in
theorem cloneSt_any (w : World) (A : Option Addr) (c : Nat) (l : List ByteArray) (hr : Reads w 1 A l.length (sts l)) (hc : A = none → l = [] ∧ c = 0) (hlen : l.length ≤ 100000) :
    Calls Try.prog 21 #[.slice A l.length c] w fun e w' => ∃ A1 c1, e = .returned (.slice A1 l.length c1) ∧ StrOut w w' A1 c1 l := by
  have q : ∀ (w : World) (A : Option Addr) (n c : Nat), (binOp .eql 22 (.slice A n c) (.slice none 0 0)).run Try.prog w = .ok (.bool A.isNone) w := fun w A n c => Lib.run_eql_slice_nil w 22 9 A n c 0 0 Try.underlying22
  cases A with
  | none =>
    obtain ⟨rfl, rfl⟩ := hc rfl
    clear hr hlen
    go_enter Try.func21, Try.ntmps21
    go_wp2_with fail
    refine bodyPost_ret (v := .slice none 0 0) (results_tmp (t := 2) rfl _ _ _) rfl ?_
    exact ⟨none, 0, rfl, StrOut.nil _⟩
  | some a =>
    have Hf := Lib.hid (SRow.fresh w)
    have hbb : Below w.heap.size w (w.alloc (.cells #[] 9)) := (Below.refl _ _).alloc (Nat.le_refl _) _
    have Hr := Lib.hid (show Reads (w.alloc (.cells #[] 9)) 1 (some a) l.length (sts l) from hr.below hbb)
    have Hb := Lib.hid hbb
    have Hlen := Lib.hid hlen
    clear hbb hr hlen
    go_enter Try.func21, Try.ntmps21
    go_wp2_with (at_builtin; refine wpList_append_st rfl (.tmp 5) (.tmp 6) rfl (some ⟨w.heap.size, 0, none⟩) 0 [] rfl Hf.out (some a) c l l.length rfl rfl Hr.out (by have := Hlen.out; simp; omega) ?_)
    intro A1 c1 w1 hrow hchg hblk
    have Hrow := Lib.hid hrow
    have Hb1 := Lib.hid (Hb.out.trans (hchg.below (B := w.heap.size) (fun i hi e => by have := Option.some.inj e; simp only at this; omega) Hb.out.size))
    have Hk := Lib.hid (show ∀ k, blk A1 = some k → w.heap.size ≤ k from fun k hk => by
      rcases hblk k hk with h | h
      · have := Option.some.inj h; simp only at this; omega
      · omega)
    clear hrow hchg hblk
    go_wp2_with fail
    go_ret
    exact ⟨A1, c1, rfl, Hrow.out, Hk.out, Hb1.out⟩

/-! ### whether it can be written -/
def mayE (n : Nat) (l : List (Int × ByteArray)) : Nat := if rightP l = false then 6 else if l.any (fun p => decide ((n : Int) ≤ p.1)) = true then 3 else 0
theorem rightFrom_all {z : Int} {l : List (Int × ByteArray)} (h : rightFrom z l = true) : ∀ p ∈ l, z < p.1 ∧ p.1 < 128 ∧ rightS p.2 = true := by
  induction l generalizing z with
  | nil => intro p hp; simp at hp
  | cons q l ih =>
    intro p hp
    rw [rightFrom, Bool.and_eq_true, Bool.and_eq_true, Bool.and_eq_true, decide_eq_true_iff, decide_eq_true_iff] at h
    obtain ⟨⟨⟨h1, h2⟩, h3⟩, h4⟩ := h
    rcases List.mem_cons.1 hp with rfl | hp
    · exact ⟨h1, h2, h3⟩
    · obtain ⟨g1, g2, g3⟩ := ih h4 p hp
      exact ⟨by omega, g2, g3⟩
theorem rightFrom_last {l : List (Int × ByteArray)} : ∀ {z : Int} (h : rightFrom z l = true) (j : Nat) (hj : l.length = j + 1), ∀ p ∈ l, p.1 ≤ (l[j]'(by omega)).1 := by
  induction l with
  | nil => intro z h j hj; simp at hj
  | cons q l ih =>
    intro z h j hj p hp
    rw [rightFrom, Bool.and_eq_true, Bool.and_eq_true, Bool.and_eq_true, decide_eq_true_iff, decide_eq_true_iff] at h
    obtain ⟨_, h4⟩ := h
    cases j with
    | zero =>
      have hl0 : l = [] := List.eq_nil_of_length_eq_zero (by simpa using hj)
      subst hl0
      rcases List.mem_cons.1 hp with rfl | hp
      · exact Int.le_refl _
      · simp at hp
    | succ j =>
      have hj' : l.length = j + 1 := by simpa using hj
      rw [List.getElem_cons_succ]
      rcases List.mem_cons.1 hp with rfl | hp
      · have := (rightFrom_all h4 _ (List.getElem_mem (by omega : j < l.length))).1
        omega
      · exact ih h4 j hj' p hp
theorem mayE_form {n : Nat} {l : List (Int × ByteArray)} (h : rightP l = false) : mayE n l = 6 := by unfold mayE; rw [if_pos h]
theorem mayE_range {n : Nat} {l : List (Int × ByteArray)} (h : rightP l = true) {p : Int × ByteArray} (hp : p ∈ l) (hn : (n : Int) ≤ p.1) : mayE n l = 3 := by
  unfold mayE; rw [if_neg (by rw [h]; simp), if_pos (List.any_eq_true.2 ⟨p, hp, decide_eq_true hn⟩)]
theorem mayE_ok {n : Nat} {l : List (Int × ByteArray)} (h : rightP l = true) (hn : ∀ p ∈ l, p.1 < (n : Int)) : mayE n l = 0 := by
  unfold mayE; rw [if_neg (by rw [h]; simp), if_neg (by rw [List.any_eq_true]; rintro ⟨p, hp, h⟩; have := hn p hp; have := of_decide_eq_true h; omega)]
theorem mayE_zero {n : Nat} {l : List (Int × ByteArray)} (h : mayE n l = 0) : rightP l = true ∧ ∀ p ∈ l, 0 ≤ p.1 ∧ p.1 < (n : Int) := by
  unfold mayE at h
  split at h
  · cases h
  · rename_i h1
    have h1 : rightP l = true := by cases h' : rightP l; exact absurd h' h1; rfl
    split at h
    · cases h
    · rename_i h2
      refine ⟨h1, fun p hp => ?_⟩
      have h3 := (rightFrom_all h1 p hp).1
      refine ⟨by omega, ?_⟩
      by_cases h4 : (n : Int) ≤ p.1
      · exact absurd (List.any_eq_true.2 ⟨p, hp, decide_eq_true h4⟩) h2
      · omega

set_option maxHeartbeats 1000000 in
set_option maxRecDepth 100000 in
theorem may_any (w : World) (A B : Option Addr) (m : List ByteArray) (l : List (Int × ByteArray)) (c d : Nat) (hr : Reads w 2 A l.length (pks l)) (hl : l.length ≤ 100000) :
    Calls Try.prog 20 #[.slice B m.length d, .slice A l.length c] w fun e w' => e = .returned (.int .i64 (mayE m.length l : Nat)) ∧ Below w.heap.size w w' := by
  have HR := Lib.hid (delRight_any w A l c hr hl)
  have Hr := Lib.hid hr
  clear hr
  cases h1 : rightP l with
  | false =>
    rw [h1] at HR
    have HF := Lib.hid (mayE_form (n := m.length) h1)
    clear h1
    go_enter Try.func20, Try.ntmps20
    go_wp2_with fail
    refine HR.out.mono ?_
    rintro e w1 ⟨rfl, hb⟩
    have Hb := Lib.hid hb
    clear hb
    go_wp2_with fail
    go_ret
    exact ⟨by rw [HF.out]; rfl, Hb.out⟩
  | true =>
    rw [h1] at HR
    by_cases h0 : l.length = 0
    · have hl0 : l = [] := List.eq_nil_of_length_eq_zero h0
      subst hl0
      clear h0 h1 hl
      go_enter Try.func20, Try.ntmps20
      go_wp2_with fail
      refine HR.out.mono ?_
      rintro e w1 ⟨rfl, hb⟩
      have Hb := Lib.hid hb
      clear hb
      go_wp2_with fail
      go_ret
      exact ⟨rfl, Hb.out⟩
    · obtain ⟨j, hj⟩ : ∃ j, l.length = j + 1 := ⟨l.length - 1, by omega⟩
      have hjl : j < l.length := by omega
      have HL := Lib.hid (show ∀ p ∈ l, p.1 ≤ (l[j]'hjl).1 from rightFrom_last h1 j hj)
      have H1 := Lib.hid h1
      have HM := Lib.hid (List.getElem_mem hjl)
      have ew : IntKind.i64.wrap ((l.length : Int) - 1) = (j : Int) := by rw [IntWalk.i64_in ((l.length : Int) - 1) ⟨by omega, by omega⟩]; omega
      have hjI : (j : Int) < (l.length : Int) := by omega
      have h0I : 0 < l.length := by omega
      have Hj := Lib.hid hj
      clear h0 h1 hj
      by_cases h2 : (m.length : Int) ≤ l[j].1
      · have HF := Lib.hid (mayE_range H1.out HM.out h2)
        go_enter Try.func20, Try.ntmps20
        go_wp2_with fail
        refine HR.out.mono ?_
        rintro e w1 ⟨rfl, hb⟩
        obtain ⟨ad, rfl, d0, _⟩ := put_cells (Hr.out.below hb) hjl
        generalize l[j].1 = x at d0 h2
        have Hb := Lib.hid hb
        clear hb
        go_wp2_with fail
        go_ret
        exact ⟨by rw [HF.out]; rfl, Hb.out⟩
      · have HF := Lib.hid (mayE_ok (n := m.length) H1.out (fun p hp => by have := HL.out p hp; omega))
        go_enter Try.func20, Try.ntmps20
        go_wp2_with fail
        refine HR.out.mono ?_
        rintro e w1 ⟨rfl, hb⟩
        obtain ⟨ad, rfl, d0, _⟩ := put_cells (Hr.out.below hb) hjl
        generalize l[j].1 = x at d0 h2
        have Hb := Lib.hid hb
        clear hb
        go_wp2_with fail
        go_ret
        exact ⟨by rw [HF.out]; rfl, Hb.out⟩
end Go.Proofs.Ytjlecfckcciagaa
