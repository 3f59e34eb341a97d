/- The law: written, and taken back. -/
import Derived.Test.YtjlecfckcciagaaDelMath
import Derived.Test.YtjlecfckcciagaaDel8
open Go.RowKit
namespace Go.Proofs.Ytjlecfckcciagaa

theorem applyR_len (m : List ByteArray) (l : List (Int × ByteArray)) : (applyR m l).length ≤ m.length := by
  by_cases h : mayE m.length l = 0
  · rw [applyR_ok h, applyL_length]; omega
  · rw [applyR_no h]; exact Nat.zero_le _
theorem undoR_len (m : List ByteArray) (l : List (Int × ByteArray)) : (undoR m l).length ≤ l.length := by
  by_cases h : mayE m.length l = 0
  · rw [undoR_ok h]; unfold undoL; rw [List.length_map]; omega
  · rw [undoR_no h]; exact Nat.zero_le _
theorem StrOut.none_nil {w w' : World} {A : Option Addr} {c : Nat} {l : List ByteArray} (h : StrOut w w' A c l) : A = none → l = [] ∧ c = 0 := by
  rintro rfl
  rcases h.1.2 with ⟨h2, h3⟩ | ⟨g, cap, cur, hv, _⟩
  · exact ⟨List.eq_nil_of_length_eq_zero h3, by injection h2⟩
  · cases hv

end Go.Proofs.Ytjlecfckcciagaa
