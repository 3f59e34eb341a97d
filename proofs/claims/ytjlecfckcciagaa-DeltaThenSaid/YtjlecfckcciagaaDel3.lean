/- Texts of which one is no sector. -/
import Derived.Test.YtjlecfckcciagaaDel2
open Go.RowKit
namespace Go.Proofs.Ytjlecfckcciagaa

def oddB (l : List ByteArray) : Bool := l.any fun s => !rightS s
theorem oddB_cons (s : ByteArray) (l : List ByteArray) : oddB (s :: l) = (!rightS s || oddB l) := rfl
theorem oddClosure_any (s : ByteArray) (w : World) : Calls Try.prog 28 #[.string s] w fun e w' => e = .returned (.bool (!rightS s)) ∧ w = w' := by
  have HS := Lib.hid (secRight_any s w)
  go_enter Try.func28, Try.ntmps28
  go_wp2_with fail
  refine HS.out.mono ?_
  rintro e w1 ⟨rfl, rfl⟩
  go_wp2_with fail
  go_ret
  exact ⟨rfl, rfl⟩
set_option maxHeartbeats 1000000 in
set_option maxRecDepth 100000 in
theorem indexOdd_any (w : World) (A : Option Addr) (l : List ByteArray) (c : Nat) (hr : Reads w 1 A l.length (sts l)) (hl : l.length ≤ 100000) :
    Calls Try.prog 39 #[.slice A l.length c, .func (.func 28) #[] #[]] w fun e w' => ∃ r : Int, e = .returned (.int .i64 r) ∧ decide (0 ≤ r) = oddB l ∧ w = w' := by
  have Hr := Lib.hid hr
  clear hr
  go_enter Try.func39, Try.ntmps39
  go_wp2_with fail
  go_loopw [8] (fun i wr => ∃ k : Nat, k ≤ l.length ∧ i = .int .i64 k ∧ Hid (oddB (l.drop k) = oddB l) ∧ Hid (w = wr)) (fun i _ => l.length - (intOf i).toNat)
  case atStart => exact ⟨0, Nat.zero_le _, rfl, Lib.hid rfl, Lib.hid rfl⟩
  case round =>
    obtain ⟨k, hk, rfl, HO, Hw⟩ := hrel
    have hw := Hw.out
    subst hw
    by_cases hlt : k < l.length
    · obtain ⟨ad, rfl, d0⟩ := str_cell Hr.out hlt
      rw [drop_at hlt, oddB_cons] at HO
      generalize l[k] = s at d0 HO
      have HS := Lib.hid (oddClosure_any s w)
      cases h3 : rightS s with
      | false =>
        rw [h3] at HS HO
        clear h3
        go_wp2_with fail
        refine HS.out.mono ?_
        rintro e w3 ⟨rfl, rfl⟩
        go_wp2_with fail
        go_ret
        exact ⟨k, rfl, by rw [← HO.out, decide_eq_true (by omega)]; rfl, rfl⟩
      | true =>
        rw [h3] at HS HO
        clear h3
        go_wp2_with fail
        refine HS.out.mono ?_
        rintro e w3 ⟨rfl, rfl⟩
        go_wp2_with fail
        case roundEnd =>
          exact ⟨⟨k + 1, by omega, by push_cast; rfl, Lib.hid (by have := HO.out; simpa using this), Lib.hid (by trivial)⟩, by simp only [intOf]; omega⟩
    · obtain rfl : k = l.length := by omega
      go_wp2_with fail
      go_ret
      exact ⟨-1, rfl, by rw [← HO.out, List.drop_length]; rfl, rfl⟩
theorem contains_any (w : World) (A : Option Addr) (l : List ByteArray) (c : Nat) (hr : Reads w 1 A l.length (sts l)) (hl : l.length ≤ 100000) :
    Calls Try.prog 27 #[.slice A l.length c, .func (.func 28) #[] #[]] w fun e w' => e = .returned (.bool (oddB l)) ∧ w = w' := by
  have HI := Lib.hid (indexOdd_any w A l c hr hl)
  clear hr
  go_enter Try.func27, Try.ntmps27
  go_wp2_with fail
  refine HI.out.mono ?_
  rintro e w1 ⟨r, rfl, hr, rfl⟩
  have Hr := Lib.hid hr
  clear hr
  go_wp2_with fail
  go_ret
  exact ⟨by rw [← Hr.out]; rfl, rfl⟩
theorem odd_any (w : World) (A : Option Addr) (l : List ByteArray) (c : Nat) (hr : Reads w 1 A l.length (sts l)) (hl : l.length ≤ 100000) :
    Calls Try.prog 22 #[.slice A l.length c] w fun e w' => e = .returned (.bool (oddB l)) ∧ w = w' := by
  have HC := Lib.hid (contains_any w A l c hr hl)
  clear hr
  go_enter Try.func22, Try.ntmps22
  go_wp2_with fail
  refine HC.out.mono ?_
  rintro e w1 ⟨rfl, rfl⟩
  go_wp2_with fail
  go_ret
  exact ⟨rfl, rfl⟩

/-! ### what must be written -/
def diffs : Nat → List ByteArray → List ByteArray → List (Int × ByteArray)
  | i, a :: ls, b :: bs => if a = b then diffs (i + 1) ls bs else ((i : Int), b) :: diffs (i + 1) ls bs
  | _, _, _ => []
def makeE (was now : List ByteArray) : Nat := if was.length ≠ now.length ∨ 128 < was.length then 8 else if oddB was = true ∨ oddB now = true then 4 else 0
def makeL (was now : List ByteArray) : List (Int × ByteArray) := if makeE was now = 0 then diffs 0 was now else []
theorem makeE_long {was now : List ByteArray} (h : was.length ≠ now.length ∨ 128 < was.length) : makeE was now = 8 ∧ makeL was now = [] := by
  have h1 : makeE was now = 8 := by unfold makeE; rw [if_pos h]
  exact ⟨h1, by unfold makeL; rw [h1]; rfl⟩
theorem makeE_odd {was now : List ByteArray} (h : ¬ (was.length ≠ now.length ∨ 128 < was.length)) (h2 : oddB was = true ∨ oddB now = true) : makeE was now = 4 ∧ makeL was now = [] := by
  have h1 : makeE was now = 4 := by unfold makeE; rw [if_neg h, if_pos h2]
  exact ⟨h1, by unfold makeL; rw [h1]; rfl⟩
theorem makeE_ok {was now : List ByteArray} (h : ¬ (was.length ≠ now.length ∨ 128 < was.length)) (h2 : ¬ (oddB was = true ∨ oddB now = true)) : makeE was now = 0 ∧ makeL was now = diffs 0 was now := by
  have h1 : makeE was now = 0 := by unfold makeE; rw [if_neg h, if_neg h2]
  exact ⟨h1, by unfold makeL; rw [if_pos h1]⟩
theorem diffs_same {i : Nat} {s : ByteArray} {ls bs : List ByteArray} : diffs i (s :: ls) (s :: bs) = diffs (i + 1) ls bs := by rw [diffs, if_pos rfl]
theorem diffs_other {i : Nat} {a b : ByteArray} {ls bs : List ByteArray} (h : a ≠ b) : diffs i (a :: ls) (b :: bs) = ((i : Int), b) :: diffs (i + 1) ls bs := by rw [diffs, if_neg h]
theorem diffs_nil {i : Nat} {ls : List ByteArray} : diffs i ls [] = [] := by cases ls <;> rfl

/-- A fresh row of puts that a function returns. -/
def PutOut (w : World) (w' : World) (A : Option Addr) (c : Nat) (ps : List (Int × ByteArray)) : Prop := URow w' A c ps ∧ (∀ k, blk A = some k → w.heap.size ≤ k) ∧ Below w.heap.size w w'
def StrOut (w : World) (w' : World) (A : Option Addr) (c : Nat) (l : List ByteArray) : Prop := SRow w' A c l ∧ (∀ k, blk A = some k → w.heap.size ≤ k) ∧ Below w.heap.size w w'
theorem PutOut.nil (w : World) : PutOut w w none 0 [] := ⟨URow.nil _, by simp [blk], Below.refl _ _⟩
theorem StrOut.nil (w : World) : StrOut w w none 0 [] := ⟨SRow.nil _, by simp [blk], Below.refl _ _⟩
theorem PutOut.keep {w w' w2 : World} {A : Option Addr} {c : Nat} {ps : List (Int × ByteArray)} (h : PutOut w w' A c ps) (hb : Below w'.heap.size w' w2) : PutOut w w2 A c ps :=
  ⟨h.1.below hb, h.2.1, h.2.2.trans (hb.mono (B' := w.heap.size) h.2.2.size)⟩
theorem StrOut.keep {w w' w2 : World} {A : Option Addr} {c : Nat} {ps : List ByteArray} (h : StrOut w w' A c ps) (hb : Below w'.heap.size w' w2) : StrOut w w2 A c ps :=
  ⟨h.1.below hb, h.2.1, h.2.2.trans (hb.mono (B' := w.heap.size) h.2.2.size)⟩
/-- It grows by an append. -/
theorem PutOut.grow {w w' w1 : World} {A A1 : Option Addr} {c c1 : Nat} {ps qs : List (Int × ByteArray)} (h : PutOut w w' A c ps) (h1 : URow w1 A1 c1 qs) (hc : Chg (fun i => blk A = some i) w' w1) (hk : ∀ k, blk A1 = some k → blk A = some k ∨ w.heap.size ≤ k) : PutOut w w1 A1 c1 qs :=
  ⟨h1, fun k hk1 => by
    rcases hk k hk1 with h2 | h2
    · exact h.2.1 k h2
    · exact h2, h.2.2.trans (hc.below (fun i hi e => by have := h.2.1 i e; omega) h.2.2.size)⟩
theorem StrOut.grow {w w' w1 : World} {A A1 : Option Addr} {c c1 : Nat} {ps qs : List ByteArray} (h : StrOut w w' A c ps) (h1 : SRow w1 A1 c1 qs) (hc : Chg (fun i => blk A = some i) w' w1) (hk : ∀ k, blk A1 = some k → blk A = some k ∨ w.heap.size ≤ k) : StrOut w w1 A1 c1 qs :=
  ⟨h1, fun k hk1 => by
    rcases hk k hk1 with h2 | h2
    · exact h.2.1 k h2
    · exact h2, h.2.2.trans (hc.below (fun i hi e => by have := h.2.1 i e; omega) h.2.2.size)⟩

set_option maxHeartbeats 2000000 in
set_option maxRecDepth 100000 in
theorem make_any (w : World) (A B : Option Addr) (l m : List ByteArray) (c d : Nat) (hr : Reads w 1 A l.length (sts l)) (hs : Reads w 1 B m.length (sts m)) (hl : l.length ≤ 100000) (hm : m.length ≤ 100000) :
    Calls Try.prog 13 #[.slice A l.length c, .slice B m.length d] w fun e w' => ∃ A1 c1, e = .returned (.tuple #[.slice A1 (makeL l m).length c1, .int .i64 (makeE l m : Nat)]) ∧ PutOut w w' A1 c1 (makeL l m) := by
  have HO1 := Lib.hid (odd_any w A l c hr hl)
  have HO2 := Lib.hid (odd_any w B m d hs hm)
  have Hr := Lib.hid hr
  have Hs := Lib.hid hs
  clear hr hs
  by_cases h1 : l.length ≠ m.length ∨ 128 < l.length
  · obtain ⟨e1, e2⟩ := makeE_long h1
    rw [e1, e2]
    have hb : ((l.length : Int) != (m.length : Int)) = true ∨ ((l.length : Int) != (m.length : Int)) = false ∧ 128 < l.length := by
      by_cases h : l.length = m.length
      · right; exact ⟨by simp [h], by rcases h1 with h1 | h1; exact absurd h h1; exact h1⟩
      · left; rw [bne_iff_ne]; omega
    clear h1 e1 e2
    rcases hb with hb | ⟨hb, h2⟩
    all_goals
      go_enter Try.func13, Try.ntmps13
      go_wp2_with fail
      go_ret2
      exact ⟨none, 0, rfl, PutOut.nil _⟩
  · by_cases h2 : oddB l = true ∨ oddB m = true
    · obtain ⟨e1, e2⟩ := makeE_odd h1 h2
      rw [e1, e2]
      have hb : ((l.length : Int) != (m.length : Int)) = false := by simp; omega
      have h3 : ¬ 128 < l.length := by omega
      clear h1 e1 e2
      cases h4 : oddB l with
      | true =>
        rw [h4] at HO1
        clear h2 h4
        go_enter Try.func13, Try.ntmps13
        go_wp2_with fail
        refine HO1.out.mono ?_
        rintro e w1 ⟨rfl, rfl⟩
        go_wp2_with fail
        go_ret2
        exact ⟨none, 0, rfl, PutOut.nil _⟩
      | false =>
        have h5 : oddB m = true := by rcases h2 with h | h; rw [h4] at h; cases h; exact h
        rw [h4] at HO1
        rw [h5] at HO2
        clear h2 h4 h5
        go_enter Try.func13, Try.ntmps13
        go_wp2_with fail
        refine HO1.out.mono ?_
        rintro e w1 ⟨rfl, rfl⟩
        go_wp2_with fail
        refine HO2.out.mono ?_
        rintro e w1 ⟨rfl, rfl⟩
        go_wp2_with fail
        go_ret2
        exact ⟨none, 0, rfl, PutOut.nil _⟩
    · obtain ⟨e1, e2⟩ := makeE_ok h1 h2
      have E2 := Lib.hid e2
      rw [e1]
      have hb : ((l.length : Int) != (m.length : Int)) = false := by simp; omega
      have h3 : ¬ 128 < l.length := by omega
      have Hlm := Lib.hid (show l.length = m.length by omega)
      have h4 : oddB l = false := by cases h : oddB l; rfl; exact absurd (.inl h) h2
      have h5 : oddB m = false := by cases h : oddB m; rfl; exact absurd (.inr h) h2
      rw [h4] at HO1
      rw [h5] at HO2
      have hm128 : m.length ≤ 128 := by omega
      clear h1 h2 h4 h5 e1 e2
      go_enter Try.func13, Try.ntmps13
      go_wp2_with fail
      refine HO1.out.mono ?_
      rintro e w1 ⟨rfl, rfl⟩
      go_wp2_with fail
      refine HO2.out.mono ?_
      rintro e w1 ⟨rfl, rfl⟩
      go_wp2_with fail
      clear hb
      go_loopw [6, 29] (fun v i wr => ∃ (k : Nat) (A1 : Option Addr) (c1 : Nat) (ps : List (Int × ByteArray)), k ≤ m.length ∧ v = .slice A1 ps.length c1 ∧ i = .int .i64 k ∧ Hid (ps.length ≤ k) ∧ Hid (ps ++ diffs k (l.drop k) (m.drop k) = diffs 0 l m) ∧ Hid (PutOut w wr A1 c1 ps)) (fun _ i _ => m.length - (intOf i).toNat)
      case atStart => exact ⟨0, none, 0, [], Nat.zero_le _, rfl, rfl, Lib.hid (Nat.zero_le _), Lib.hid rfl, Lib.hid (PutOut.nil _)⟩
      case round =>
        obtain ⟨k, A1, c1, ps, hk, rfl, rfl, Hp, HD, HP⟩ := hrel
        by_cases hlt : k < m.length
        · have hltl : k < l.length := by rw [Hlm.out]; exact hlt
          obtain ⟨ad, rfl, d0⟩ := str_cell (Hr.out.below HP.out.2.2) hltl
          obtain ⟨bd, rfl, d1⟩ := str_cell (Hs.out.below HP.out.2.2) hlt
          rw [drop_at hlt, drop_at hltl] at HD
          generalize l[k] = x at d0 HD
          generalize m[k] = y at d1 HD
          have hkI : (k : Int) < (l.length : Int) := by omega
          by_cases hxy : x = y
          · subst hxy
            rw [diffs_same] at HD
            go_wp2_with fail
            case roundEnd =>
              exact ⟨⟨k + 1, A1, c1, ps, by omega, rfl, by push_cast; rfl, Lib.hid (by have := Hp.out; omega), HD, HP⟩, by simp only [intOf]; omega⟩
          · have hne : (y.toList == x.toList) = false := by rw [beq_eq_false_iff_ne]; exact str_ne (fun h => hxy h.symm)
            rw [diffs_other hxy] at HD
            clear hxy
            have Hlen := Lib.hid (show ps.length + 1 ≤ 100000 by have := Hp.out; omega)
            have HX := Lib.hid (show URow (wr.alloc (.cells #[.int .i64 (k : Int), .string y] 35)) A1 c1 ps ∧ Reads (wr.alloc (.cells #[.int .i64 (k : Int), .string y] 35)) 2 (some ⟨wr.heap.size, 0, none⟩) 1 (pks [((k : Int), y)]) from
              ⟨HP.out.1.below ((Below.refl _ _).alloc (Nat.le_refl _) _), Reads.of_block (n := 1) (heap_alloc_new _ _) rfl⟩)
            go_wp2_with (at_builtin; refine wpList_append_put rfl (.tmp 40) (.tmp 44) rfl A1 c1 ps rfl HX.out.1 (some ⟨wr.heap.size, 0, none⟩) 1 [((k : Int), y)] 1 rfl rfl HX.out.2 Hlen.out ?_)
            intro A2 c2 w2 hrow hchg hblk
            have hC : Chg (fun i => blk A1 = some i) wr w2 := ((Chg.refl (fun i => blk A1 = some i) wr).alloc _).trans hchg (fun _ _ h => h)
            have Hout := Lib.hid (HP.out.grow hrow hC (fun k hk => by
              rcases hblk k hk with h | h
              · exact .inl h
              · right; have := HP.out.2.2.size; omega))
            clear hrow hchg hblk hC
            go_wp2_with fail
            case roundEnd =>
              exact ⟨⟨k + 1, A2, c2, ps ++ [((k : Int), y)], by omega, by simp, by push_cast; rfl, Lib.hid (by have := Hp.out; simp; omega), Lib.hid (by rw [List.append_assoc]; exact HD.out), Hout⟩, by simp only [intOf]; omega⟩
        · obtain rfl : k = m.length := by omega
          have HF : Hid (ps = makeL l m) := Lib.hid (by have h := HD.out; rw [E2.out, ← h, List.drop_length, diffs_nil, List.append_nil])
          go_wp2_with fail
          go_ret2
          exact ⟨A1, c1, by rw [← HF.out]; rfl, by rw [← HF.out]; exact HP.out⟩
end Go.Proofs.Ytjlecfckcciagaa
