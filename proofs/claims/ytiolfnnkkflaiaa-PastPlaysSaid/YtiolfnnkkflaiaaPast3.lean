/- A past: what a sector may have. -/
import Derived.Test.YtiolfnnkkflaiaaPast2
open Go.RowKit
namespace Go.Proofs.Ytiolfnnkkflaiaa

def hasS (l : List ByteArray) (s : ByteArray) : Bool := l.any fun x => s.toList == x.toList
theorem hasS_cons (x : ByteArray) (l : List ByteArray) (s : ByteArray) : hasS (x :: l) s = (s.toList == x.toList || hasS l s) := rfl
set_option maxHeartbeats 1000000 in
set_option maxRecDepth 100000 in
theorem indexSt_any (w : World) (A : Option Addr) (l : List ByteArray) (c : Nat) (s : ByteArray) (hr : Reads w 1 A l.length (sts l)) (hl : l.length ≤ 100000) :
    Calls Try.prog 92 #[.slice A l.length c, .string s] w fun e w' => ∃ r : Int, e = .returned (.int .i64 r) ∧ decide (0 ≤ r) = hasS l s ∧ Below w.heap.size w w' := by
  have Hr := Lib.hid hr
  clear hr
  go_enter Try.func92, Try.ntmps92
  go_wp2_with fail
  go_loopw [8] (fun i wr => ∃ k : Nat, k ≤ l.length ∧ i = .int .i64 k ∧ Hid (hasS (l.drop k) s = hasS l s) ∧ Hid (Below w.heap.size w wr)) (fun i _ => l.length - (intOf i).toNat)
  case atStart => exact ⟨0, Nat.zero_le _, rfl, Lib.hid rfl, Lib.hid (Below.refl _ _)⟩
  case round =>
    obtain ⟨k, hk, rfl, HO, Hb⟩ := hrel
    by_cases hlt : k < l.length
    · obtain ⟨ad, rfl, d0⟩ := str_cell (Hr.out.below Hb.out) hlt
      rw [drop_at hlt, hasS_cons] at HO
      generalize l[k] = x at d0 HO
      cases h3 : (s.toList == x.toList) with
      | true =>
        rw [h3] at HO
        go_wp2_with fail
        go_ret
        exact ⟨k, rfl, by rw [← HO.out, decide_eq_true (by omega)]; rfl, Hb.out⟩
      | false =>
        rw [h3] at HO
        go_wp2_with fail
        case roundEnd =>
          exact ⟨⟨k + 1, by omega, by push_cast; rfl, Lib.hid (by have := HO.out; simpa using this), Hb⟩, by simp only [intOf]; omega⟩
    · obtain rfl : k = l.length := by omega
      go_wp2_with fail
      go_ret
      exact ⟨-1, rfl, by rw [← HO.out, List.drop_length]; rfl, Hb.out⟩
theorem containsSt_any (w : World) (A : Option Addr) (l : List ByteArray) (c : Nat) (s : ByteArray) (hr : Reads w 1 A l.length (sts l)) (hl : l.length ≤ 100000) :
    Calls Try.prog 78 #[.slice A l.length c, .string s] w fun e w' => e = .returned (.bool (hasS l s)) ∧ Below w.heap.size w w' := by
  have HI := Lib.hid (indexSt_any w A l c s hr hl)
  clear hr
  go_enter Try.func78, Try.ntmps78
  go_wp2_with fail
  refine HI.out.mono ?_
  rintro e w1 ⟨r, rfl, hr, hb⟩
  have Hr := Lib.hid hr
  have Hb := Lib.hid hb
  clear hr hb
  go_wp2_with fail
  go_ret
  exact ⟨by rw [← Hr.out]; rfl, Hb.out⟩

def mayP (m : List (List ByteArray)) (i : Int) (s : ByteArray) : Bool := decide (inP m.length i) && hasS (m.getD i.toNat []) s
section
variable {w : World} {g : Nat} {A : Option Addr} {c : Nat} {T : List TR} {B : Option Addr} {d : Nat} {I : List IM}
set_option maxRecDepth 100000 in
theorem pastMay_any (h : PastM w g A c T B d I) (hlen : ∀ k (hk : k < T.length), T[k].xs.length ≤ 100000) (i : Int) (s : ByteArray) : Calls Try.prog 37 #[.pointer (some ⟨g, 0, none⟩), .int .i64 i, .string s] w fun e w' => e = .returned (.bool (mayP (texts T) i s)) ∧ Below w.heap.size w w' := by
  have HH := Lib.hid (pastHas_any h i)
  obtain ⟨c0, c1, _, _⟩ := cells2 h.cell
  by_cases hin : inP T.length i
  · rw [hasP_in hin] at HH
    have HL := Lib.hid (show mayP (texts T) i s = hasS ((texts T).getD i.toNat []) s by unfold mayP; rw [texts_length, decide_eq_true hin, Bool.true_and])
    obtain ⟨k, hk, rfl⟩ := inP_nat hin
    rw [Int.toNat_natCast, texts_get T k hk] at HL
    obtain ⟨b, rfl, hb, d0, _⟩ := h.tab.cell hk
    have HC := Lib.hid (containsSt_any w (some ⟨T[k].b, T[k].o, none⟩) T[k].xs T[k].c s (h.tab.lies k hk).reads (hlen k hk))
    have hkI : (k : Int) < (T.length : Int) := by omega
    unfold TR.v at d0
    generalize T[k] = t at *
    clear h hin
    go_enter Try.func37, Try.ntmps37
    go_wp2_with fail
    refine HH.out.mono ?_
    rintro e w1 ⟨rfl, rfl⟩
    rw [show ((0 : Nat) : Int) = 0 from rfl]
    go_wp2_with fail
    refine HC.out.mono ?_
    rintro e w1 ⟨rfl, hb1⟩
    have Hb1 := Lib.hid hb1
    clear hb1
    go_wp2_with fail
    go_ret
    exact ⟨by rw [HL.out]; rfl, Hb1.out⟩
  · rw [hasP_out hin] at HH
    have HL := Lib.hid (show mayP (texts T) i s = false by unfold mayP; rw [texts_length, decide_eq_false hin]; rfl)
    clear h hin
    go_enter Try.func37, Try.ntmps37
    go_wp2_with fail
    refine HH.out.mono ?_
    rintro e w1 ⟨rfl, rfl⟩
    rw [show ((3 : Nat) : Int) = 3 from rfl]
    go_wp2_with fail
    go_ret
    exact ⟨by rw [HL.out]; rfl, Below.refl _ _⟩
end
end Go.Proofs.Ytiolfnnkkflaiaa
