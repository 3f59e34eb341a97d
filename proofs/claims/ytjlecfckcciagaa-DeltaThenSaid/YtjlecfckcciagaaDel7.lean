/- What takes it back. -/
import Derived.Test.YtjlecfckcciagaaDel6
open Go.RowKit
namespace Go.Proofs.Ytjlecfckcciagaa

def undoL (im : List ByteArray) (l : List (Int × ByteArray)) : List (Int × ByteArray) := l.map fun p => (p.1, im.getD p.1.toNat ⟨#[]⟩)
theorem undoL_cons (im : List ByteArray) (n : Nat) (s : ByteArray) (l : List (Int × ByteArray)) (hn : n < im.length) : undoL im (((n : Int), s) :: l) = ((n : Int), im[n]) :: undoL im l := by
  unfold undoL
  rw [List.map_cons, Int.toNat_natCast, List.getD_eq_getElem?_getD, List.getElem?_eq_getElem hn]; rfl
def undoR (im : List ByteArray) (l : List (Int × ByteArray)) : List (Int × ByteArray) := if mayE im.length l = 0 then undoL im l else []
theorem undoR_ok {im : List ByteArray} {l : List (Int × ByteArray)} (h : mayE im.length l = 0) : undoR im l = undoL im l := by unfold undoR; rw [if_pos h]
theorem undoR_no {im : List ByteArray} {l : List (Int × ByteArray)} (h : mayE im.length l ≠ 0) : undoR im l = [] := by unfold undoR; rw [if_neg h]

theorem keepsAlloc (w : World) (o : Obj) : KeepsBut [] w (w.alloc o) :=
  ⟨by show w.heap.size ≤ (w.heap.push _).size; rw [Array.size_push]; omega, fun i hi _ => heap_alloc_old w o hi⟩

end Go.Proofs.Ytjlecfckcciagaa
