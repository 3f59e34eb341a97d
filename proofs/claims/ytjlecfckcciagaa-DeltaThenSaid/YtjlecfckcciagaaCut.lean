/- Cutting a slice: 'x[lo:hi]', 'x[lo:]', 'x[:hi]', whatever it reads as. -/
import Derived.Test.YtjlecfckcciagaaMem
open Go.RowKit
namespace Go.Proofs.Ytjlecfckcciagaa

section
variable {P : Program}
theorem Reads.drop_ {w : World} {sz n lo c : Nat} {A : Option Addr} {xs : List Value} (h : Reads w sz A n xs) (hlo : lo ≤ n) (hc : n ≤ c) :
    Reads w sz (if c = lo then A else A.map (·.add (lo * sz))) (n - lo) (xs.drop (lo * sz)) := by
  refine ⟨by rw [List.length_drop, h.1, Nat.sub_mul], fun hn => ?_⟩
  obtain ⟨ad, rfl, hcell⟩ := h.2 (by omega)
  rw [if_neg (by omega)]
  refine ⟨ad.add (lo * sz), rfl, fun j u hu => ?_⟩
  rw [add_of_add]
  exact hcell _ u (by rw [← hu, List.getElem?_drop])
theorem Reads.take_ {w : World} {sz n k : Nat} {A : Option Addr} {xs : List Value} (h : Reads w sz A n xs) (hk : k ≤ n) : Reads w sz A k (xs.take (k * sz)) := by
  refine ⟨by rw [List.length_take, h.1, Nat.min_eq_left (Nat.mul_le_mul_right _ hk)], fun hn => ?_⟩
  obtain ⟨ad, rfl, hcell⟩ := h.2 (by omega)
  refine ⟨ad, rfl, fun j u hu => hcell j u ?_⟩
  rw [List.getElem?_take] at hu
  split at hu
  · exact hu
  · cases hu

variable (t e : TypeId) {i : TypeInfo} (ht : P.underlying t = some (.slice e)) (hi : P.info? e = some i) (size : Nat) (A : Option Addr) (n c : Nat)
include ht hi
/-- 'x[:hi]' -/
theorem cut_to (hi' : Nat) (h2 : hi' ≤ n) (hc : n ≤ c) :
    (∀ W : World, (Instr.slice t (.slice A n c) none (some (.int .i64 (hi' : Int))) none).run P W = .ok (.slice A hi' c) W) ∧
    (∀ w xs, Reads w size A n xs → Reads w size A hi' (xs.take (hi' * size))) := by
  refine ⟨fun W => ?_, fun w xs h => h.take_ h2⟩
  have hel : P.elem t = e := by simp [Program.elem, ht]
  have hu : P.underlying t = some (.slice (P.elem t)) := by rw [hel]; exact ht
  have ha : (A.map fun x => x.add 0) = A := by cases A <;> simp [Addr.add]
  rw [run_slice_h W t A n c hu .i64 hi' (by omega) (by omega), hel]
  simp [sizeOf, typeInfo, hi, sliced, Result.andThen, ha]
/-- 'x[lo:hi]' -/
theorem cut_mid (hsz : i.size = size) (lo hi' : Nat) (h1 : lo ≤ hi') (h2 : hi' ≤ n) (hc : n ≤ c) : ∃ A' : Option Addr,
    (∀ W : World, (Instr.slice t (.slice A n c) (some (.int .i64 (lo : Int))) (some (.int .i64 (hi' : Int))) none).run P W = .ok (.slice A' (hi' - lo) (c - lo)) W) ∧
    (∀ w xs, Reads w size A n xs → Reads w size A' (hi' - lo) ((xs.drop (lo * size)).take ((hi' - lo) * size))) := by
  refine ⟨if c = lo then A else A.map (·.add (lo * size)), fun W => ?_, fun w xs h => (h.drop_ (by omega) hc).take_ (by omega)⟩
  have hel : P.elem t = e := by simp [Program.elem, ht]
  have hu : P.underlying t = some (.slice (P.elem t)) := by rw [hel]; exact ht
  rw [run_slice_lh W t A n c hu .i64 .i64 lo hi' (by omega) (by omega) (by omega), hel]
  simp [sizeOf, typeInfo, hi, hsz, sliced, Result.andThen]
/-- 'x[lo:]' -/
theorem cut_from (hsz : i.size = size) (lo : Nat) (h1 : lo ≤ n) (hc : n ≤ c) : ∃ A' : Option Addr,
    (∀ W : World, (Instr.slice t (.slice A n c) (some (.int .i64 (lo : Int))) none none).run P W = .ok (.slice A' (n - lo) (c - lo)) W) ∧
    (∀ w xs, Reads w size A n xs → Reads w size A' (n - lo) (xs.drop (lo * size))) := by
  refine ⟨if c = lo then A else A.map (·.add (lo * size)), fun W => ?_, fun w xs h => h.drop_ h1 hc⟩
  have hel : P.elem t = e := by simp [Program.elem, ht]
  have hu : P.underlying t = some (.slice (P.elem t)) := by rw [hel]; exact ht
  rw [run_slice_l W t A n c hu .i64 lo (by omega) (by omega), hel]
  simp [sizeOf, typeInfo, hi, hsz, sliced, Result.andThen]
end

/-! ### bytes -/
section
variable (A : Option Addr) (c : Nat) (l : List UInt8)
theorem cutB_mid (lo hi : Nat) (h1 : lo ≤ hi) (h2 : hi ≤ l.length) (hc : l.length ≤ c) : ∃ A' : Option Addr,
    (∀ W : World, (Instr.slice 49 (.slice A l.length c) (some (.int .i64 (lo : Int))) (some (.int .i64 (hi : Int))) none).run Try.prog W = .ok (.slice A' (hi - lo) (c - lo)) W) ∧
    (∀ w, Reads w 1 A l.length (bv l) → Reads w 1 A' ((l.drop lo).take (hi - lo)).length (bv ((l.drop lo).take (hi - lo)))) := by
  obtain ⟨i0, hi0, _, hz1, _⟩ := info_parts info_u8
  obtain ⟨A', h3, h4⟩ := cut_mid (P := Try.prog) 49 5 Try.underlying49 hi0 1 A l.length c hz1 lo hi h1 h2 hc
  refine ⟨A', h3, fun w h => ?_⟩
  have := h4 w _ h
  have e : ((l.drop lo).take (hi - lo)).length = hi - lo := by simp; omega
  rw [e]
  simpa [bv, List.map_take, List.map_drop] using this
theorem cutB_from (lo : Nat) (h1 : lo ≤ l.length) (hc : l.length ≤ c) : ∃ A' : Option Addr,
    (∀ W : World, (Instr.slice 49 (.slice A l.length c) (some (.int .i64 (lo : Int))) none none).run Try.prog W = .ok (.slice A' (l.length - lo) (c - lo)) W) ∧
    (∀ w, Reads w 1 A l.length (bv l) → Reads w 1 A' (l.drop lo).length (bv (l.drop lo))) := by
  obtain ⟨i0, hi0, _, hz1, _⟩ := info_parts info_u8
  obtain ⟨A', h3, h4⟩ := cut_from (P := Try.prog) 49 5 Try.underlying49 hi0 1 A l.length c hz1 lo h1 hc
  refine ⟨A', h3, fun w h => ?_⟩
  have := h4 w _ h
  rw [List.length_drop]
  simpa [bv, List.map_drop] using this
theorem cutB_to (hi : Nat) (h2 : hi ≤ l.length) (hc : l.length ≤ c) :
    (∀ W : World, (Instr.slice 49 (.slice A l.length c) none (some (.int .i64 (hi : Int))) none).run Try.prog W = .ok (.slice A hi c) W) ∧
    (∀ w, Reads w 1 A l.length (bv l) → Reads w 1 A (l.take hi).length (bv (l.take hi))) := by
  obtain ⟨i0, hi0, _, _, _⟩ := info_parts info_u8
  obtain ⟨h3, h4⟩ := cut_to (P := Try.prog) 49 5 Try.underlying49 hi0 1 A l.length c hi h2 hc
  refine ⟨h3, fun w h => ?_⟩
  have := h4 w _ h
  have e : (l.take hi).length = hi := by simp; omega
  rw [e]
  simpa [bv, List.map_take] using this
end

end Go.Proofs.Ytjlecfckcciagaa
