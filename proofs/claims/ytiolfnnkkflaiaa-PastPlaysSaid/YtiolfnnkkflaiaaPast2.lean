/- A past: whether there is a sector; what it has last. -/
import Derived.Test.YtiolfnnkkflaiaaPast1
open Go.RowKit
namespace Go.Proofs.Ytiolfnnkkflaiaa

def inP (n : Nat) (i : Int) : Prop := 0 ≤ i ∧ i < (n : Int)
instance (n : Nat) (i : Int) : Decidable (inP n i) := by unfold inP; infer_instance
def hasP (n : Nat) (i : Int) : Nat := if inP n i then 0 else 3
theorem hasP_in {n : Nat} {i : Int} (h : inP n i) : hasP n i = 0 := by unfold hasP; rw [if_pos h]
theorem hasP_out {n : Nat} {i : Int} (h : ¬ inP n i) : hasP n i = 3 := by unfold hasP; rw [if_neg h]
theorem inP_nat {n : Nat} {i : Int} (h : inP n i) : ∃ k : Nat, k < n ∧ i = (k : Int) := ⟨i.toNat, by unfold inP at h; omega, by unfold inP at h; omega⟩
def lastS (l : List ByteArray) : ByteArray := l.getLastD ⟨#[]⟩
def lastP (m : List (List ByteArray)) (i : Int) : ByteArray := if inP m.length i then lastS (m.getD i.toNat []) else ⟨#[]⟩
theorem texts_length (T : List TR) : (texts T).length = T.length := by simp [texts]
theorem texts_get (T : List TR) (k : Nat) (hk : k < T.length) : (texts T).getD k [] = T[k].xs := by simp [texts, List.getD_eq_getElem?_getD, hk]
theorem lastS_at {l : List ByteArray} {j : Nat} (h : l.length = j + 1) : lastS l = l[j]'(by omega) := by
  unfold lastS
  rw [List.getLastD_eq_getLast?, List.getLast?_eq_getElem?, show l.length - 1 = j by omega, List.getElem?_eq_getElem (by omega)]; rfl
theorem lastP_at {T : List TR} {k j : Nat} (hk : k < T.length) (h : T[k].xs.length = j + 1) : lastP (texts T) (k : Int) = T[k].xs[j]'(by omega) := by
  unfold lastP
  rw [if_pos (by unfold inP; rw [texts_length]; omega), Int.toNat_natCast, texts_get T k hk, lastS_at h]

section
variable {w : World} {g : Nat} {A : Option Addr} {c : Nat} {T : List TR} {B : Option Addr} {d : Nat} {I : List IM}
theorem pastHas_any (h : PastM w g A c T B d I) (i : Int) : Calls Try.prog 77 #[.pointer (some ⟨g, 0, none⟩), .int .i64 i] w fun e w' => e = .returned (.int .i64 (hasP T.length i : Nat)) ∧ w = w' := by
  obtain ⟨c0, c1, _, _⟩ := cells2 h.cell
  clear h
  by_cases h0 : i < 0
  · have H := Lib.hid (show hasP T.length i = 3 from hasP_out (by unfold inP; omega))
    go_enter Try.func77, Try.ntmps77
    go_wp2_with fail
    go_ret
    exact ⟨by rw [H.out]; rfl, rfl⟩
  · by_cases h1 : (T.length : Int) ≤ i
    · have H := Lib.hid (show hasP T.length i = 3 from hasP_out (by unfold inP; omega))
      go_enter Try.func77, Try.ntmps77
      go_wp2_with fail
      go_ret
      exact ⟨by rw [H.out]; rfl, rfl⟩
    · have H := Lib.hid (show hasP T.length i = 0 from hasP_in (by unfold inP; omega))
      go_enter Try.func77, Try.ntmps77
      go_wp2_with fail
      go_ret
      exact ⟨by rw [H.out]; rfl, rfl⟩
set_option maxRecDepth 100000 in
theorem pastLast_any (h : PastM w g A c T B d I) (hlen : ∀ k (hk : k < T.length), T[k].xs.length ≤ 100000) (i : Int) : Calls Try.prog 36 #[.pointer (some ⟨g, 0, none⟩), .int .i64 i] w fun e w' => e = .returned (.tuple #[.string (lastP (texts T) i), .int .i64 (hasP T.length i : Nat)]) ∧ w = w' := by
  have HH := Lib.hid (pastHas_any h i)
  obtain ⟨c0, c1, _, _⟩ := cells2 h.cell
  by_cases hin : inP T.length i
  · rw [hasP_in hin] at HH ⊢
    obtain ⟨k, hk, rfl⟩ := inP_nat hin
    obtain ⟨b, rfl, hb, d0, _⟩ := h.tab.cell hk
    obtain ⟨j, hj, hjl, e0⟩ := (h.tab.lies k hk).last
    rw [lastP_at hk hj]
    have hl := hlen k hk
    have hkI : (k : Int) < (T.length : Int) := by omega
    unfold TR.v at d0
    generalize T[k].xs[j] = s at e0 ⊢
    generalize T[k] = t at d0 hj hjl e0 hl
    have ew : IntKind.i64.wrap ((t.xs.length : Int) - 1) = (j : Int) := by rw [IntWalk.i64_in ((t.xs.length : Int) - 1) ⟨by omega, by omega⟩]; omega
    have hjI : (j : Int) < (t.xs.length : Int) := by omega
    have e1 : w.cell? ((⟨t.b, t.o, none⟩ : Addr).add j) = some (.string s) := by
      have ha : (⟨t.b, t.o, none⟩ : Addr).add j = ⟨t.b, t.o + j, none⟩ := by
        unfold Addr.add; split
        · rename_i h; subst h; rfl
        · rfl
      rw [ha]; exact e0
    clear h hin hj
    go_enter Try.func36, Try.ntmps36
    go_wp2_with fail
    refine HH.out.mono ?_
    rintro e w1 ⟨rfl, rfl⟩
    rw [show ((0 : Nat) : Int) = 0 from rfl]
    go_wp2_with fail
    go_ret2
    exact ⟨rfl, rfl⟩
  · rw [hasP_out hin] at HH ⊢
    have HL := Lib.hid (show lastP (texts T) i = ⟨#[]⟩ by unfold lastP; rw [if_neg (by rw [texts_length]; exact hin)])
    clear h hin
    go_enter Try.func36, Try.ntmps36
    go_wp2_with fail
    refine HH.out.mono ?_
    rintro e w1 ⟨rfl, rfl⟩
    rw [show ((3 : Nat) : Int) = 3 from rfl]
    go_wp2_with fail
    go_ret2
    exact ⟨by rw [HL.out]; rfl, rfl⟩
end
end Go.Proofs.Ytiolfnnkkflaiaa
