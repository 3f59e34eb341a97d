/- The plain law of word: what is put is got back, as far as its width goes. -/
import Derived.Test.YtcahflddafdhfaaWord
open Go.RowKit
namespace Go.Proofs.Ytcahflddafdhfaa

theorem beNum_fold (l : List UInt8) : ∀ n : Nat, l.foldl (fun n c => n * 256 + c.toNat) n = n * 256 ^ l.length + l.foldl (fun n c => n * 256 + c.toNat) 0 := by
  induction l with
  | nil => intro n; simp
  | cons c l ih =>
    intro n
    rw [List.foldl_cons, ih, List.foldl_cons, ih (0 * 256 + c.toNat), List.length_cons, Nat.pow_succ, Nat.zero_mul, Nat.zero_add, Nat.add_mul, Nat.mul_assoc, Nat.mul_comm 256, Nat.add_assoc]
theorem beNum_cons (c : UInt8) (l : List UInt8) : beNum (c :: l) = c.toNat * 256 ^ l.length + beNum l := by
  unfold beNum
  rw [List.foldl_cons, beNum_fold]
  simp
theorem beNum_be (k n : Nat) : beNum (be k n) = n % 256 ^ k := by
  induction k with
  | zero => rw [be_zero, beNum_nil]; simp; omega
  | succ k ih =>
    have h : (UInt8.ofNat (n / 256 ^ k % 256)).toNat = n / 256 ^ k % 256 := by
      rw [UInt8.toNat_ofNat']
      omega
    rw [be_succ, beNum_cons, be_length, ih, h, Nat.pow_succ, Nat.mod_mul, Nat.mul_comm, Nat.add_comm]
theorem gErr_back (l : List UInt8) (k : Nat) (h1 : 1 ≤ k) (h2 : k ≤ 8) (n : Nat) : gErr (wPut l k n).length l.length k = 0 := by
  rw [wPut_ok (wOk_true (by omega) (by omega))]
  refine gErr_ok (by omega) ?_
  rw [List.length_append, be_length]
  simp
theorem gNum_back (l : List UInt8) (k : Nat) (h1 : 1 ≤ k) (h2 : k ≤ 8) (n : Nat) : gNum (wPut l k n) l.length k = n % 256 ^ k := by
  rw [gNum_ok (gErr_back l k h1 h2 n), wPut_ok (wOk_true (by omega) (by omega)), Int.toNat_natCast, Int.toNat_natCast, List.drop_left, List.take_of_length_le (by rw [be_length]; exact Nat.le_refl _), beNum_be]

end Go.Proofs.Ytcahflddafdhfaa
