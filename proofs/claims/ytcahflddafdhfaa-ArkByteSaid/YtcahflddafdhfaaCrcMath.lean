/- The plain laws of the sum: two texts one behind the other; another byte is another sum. -/
import Derived.Test.YtcahflddafdhfaaCrc
open Go.RowKit
namespace Go.Proofs.Ytcahflddafdhfaa

theorem crcAdd_append (a b : List UInt8) (s : Nat) : crcAdd (crcAdd s a) b = crcAdd s (a ++ b) := by
  have hlt : ∀ (l : List UInt8) (m : Nat), m < 4294967296 → l.foldl crcByte m < 4294967296 := by
    intro l
    induction l with
    | nil => intro m h; exact h
    | cons c l ih => intro m h; exact ih _ (crcByte_lt m c h)
  unfold crcAdd
  rw [List.foldl_append, unot32_unot32 (hlt a _ (unot32_lt s))]

/-- By the highest byte of an entry, which entry it is. -/
def crcWho : List Nat := [0, 241, 226, 19, 196, 53, 38, 215, 136, 121, 106, 155, 76, 189, 174, 95, 16, 225, 242, 3, 212, 37, 54, 199, 152, 105, 122, 139, 92, 173, 190, 79, 32, 209, 194, 51, 228, 21, 6, 247, 168, 89, 74, 187, 108, 157, 142, 127, 48, 193, 210, 35, 244, 5, 22, 231, 184, 73, 90, 171, 124, 141, 158, 111, 177, 64, 83, 162, 117, 132, 151, 102, 57, 200, 219, 42, 253, 12, 31, 238, 161, 80, 67, 178, 101, 148, 135, 118, 41, 216, 203, 58, 237, 28, 15, 254, 145, 96, 115, 130, 85, 164, 183, 70, 25, 232, 251, 10, 221, 44, 63, 206, 129, 112, 99, 146, 69, 180, 167, 86, 9, 248, 235, 26, 205, 60, 47, 222, 98, 147, 128, 113, 166, 87, 68, 181, 234, 27, 8, 249, 46, 223, 204, 61, 114, 131, 144, 97, 182, 71, 84, 165, 250, 11, 24, 233, 62, 207, 220, 45, 66, 179, 160, 81, 134, 119, 100, 149, 202, 59, 40, 217, 14, 255, 236, 29, 82, 163, 176, 65, 150, 103, 116, 133, 218, 43, 56, 201, 30, 239, 252, 13, 211, 34, 49, 192, 23, 230, 245, 4, 91, 170, 185, 72, 159, 110, 125, 140, 195, 50, 33, 208, 7, 246, 229, 20, 75, 186, 169, 88, 143, 126, 109, 156, 243, 2, 17, 224, 55, 198, 213, 36, 123, 138, 153, 104, 191, 78, 93, 172, 227, 18, 1, 240, 39, 214, 197, 52, 107, 154, 137, 120, 175, 94, 77, 188]
theorem crcWho_all : (List.range 256).all (fun i => crcWho.getD (crcSteps 8 i >>> 24) 256 == i) = true := by decide +kernel
theorem crcWho_of {i : Nat} (h : i < 256) : crcWho.getD (crcSteps 8 i >>> 24) 256 = i := by
  have := List.all_eq_true.1 crcWho_all i (List.mem_range.2 h)
  simpa using this
theorem crcTop_inj {i j : Nat} (hi : i < 256) (hj : j < 256) (h : crcSteps 8 i >>> 24 = crcSteps 8 j >>> 24) : i = j := by
  rw [← crcWho_of hi, ← crcWho_of hj, h]

theorem xor_cancel_right {a b c : Nat} (h : a ^^^ c = b ^^^ c) : a = b := by
  have := congrArg (· ^^^ c) h
  simpa [Nat.xor_assoc] using this
theorem xor_cancel_left {a b c : Nat} (h : c ^^^ a = c ^^^ b) : a = b := by
  rw [Nat.xor_comm c, Nat.xor_comm c] at h
  exact xor_cancel_right h

theorem crcByte_top (m : Nat) (c : UInt8) (h : m < 4294967296) : crcByte m c >>> 24 = crcSteps 8 ((m % 256) ^^^ c.toNat) >>> 24 := by
  unfold crcByte
  rw [Nat.shiftRight_xor_distrib]
  have : (m / 256) >>> 24 = 0 := by rw [Nat.shiftRight_eq_div_pow]; omega
  rw [this, Nat.zero_xor]
theorem crcIdx_lt (m : Nat) (c : UInt8) : (m % 256) ^^^ c.toNat < 256 := Nat.xor_lt_two_pow (n := 8) (by omega) (by have := c.toNat_lt; omega)
theorem crcByte_idx {m m' : Nat} {c c' : UInt8} (h : m < 4294967296) (h' : m' < 4294967296) (e : crcByte m c = crcByte m' c') : (m % 256) ^^^ c.toNat = (m' % 256) ^^^ c'.toNat :=
  crcTop_inj (crcIdx_lt m c) (crcIdx_lt m' c') (by rw [← crcByte_top m c h, ← crcByte_top m' c' h', e])
theorem crcByte_inj_state {m m' : Nat} {c : UInt8} (h : m < 4294967296) (h' : m' < 4294967296) (e : crcByte m c = crcByte m' c) : m = m' := by
  have hi := crcByte_idx h h' e
  have h1 := xor_cancel_right hi
  unfold crcByte at e
  rw [hi] at e
  have h2 := xor_cancel_right e
  omega
theorem crcByte_inj_byte {m : Nat} {c c' : UInt8} (h : m < 4294967296) (e : crcByte m c = crcByte m c') : c = c' :=
  UInt8.toNat_inj.1 (xor_cancel_left (crcByte_idx h h e))

theorem crcFold_lt (l : List UInt8) : ∀ m, m < 4294967296 → l.foldl crcByte m < 4294967296 := by
  induction l with
  | nil => intro m h; exact h
  | cons c l ih => intro m h; exact ih _ (crcByte_lt m c h)
theorem crcFold_inj (l : List UInt8) : ∀ {m m' : Nat}, m < 4294967296 → m' < 4294967296 → l.foldl crcByte m = l.foldl crcByte m' → m = m' := by
  induction l with
  | nil => intro m m' _ _ h; exact h
  | cons c l ih => intro m m' h h' e; exact crcByte_inj_state h h' (ih (crcByte_lt m c h) (crcByte_lt m' c h') e)

theorem crc_set_ne (l : List UInt8) (k : Nat) (hk : k < l.length) (b : UInt8) (hb : l[k] ≠ b) (s : Nat) : crcAdd s (l.set k b) ≠ crcAdd s l := by
  have e1 : l = l.take k ++ l[k] :: l.drop (k + 1) := by simp
  have e2 : l.set k b = l.take k ++ b :: l.drop (k + 1) := by rw [List.set_eq_take_append_cons_drop, if_pos hk]
  intro h
  rw [e2] at h
  have h3 : crcAdd s (l.take k ++ b :: l.drop (k + 1)) = crcAdd s (l.take k ++ l[k] :: l.drop (k + 1)) := by rw [h, ← e1]
  unfold crcAdd at h3
  rw [List.foldl_append, List.foldl_append, List.foldl_cons, List.foldl_cons] at h3
  have hm := crcFold_lt (l.take k) _ (unot32_lt s)
  have h4 := unot32_inj (crcFold_lt _ _ (crcByte_lt _ _ hm)) (crcFold_lt _ _ (crcByte_lt _ _ hm)) h3
  exact hb (crcByte_inj_byte hm (crcFold_inj _ (crcByte_lt _ _ hm) (crcByte_lt _ _ hm) h4)).symm
end Go.Proofs.Ytcahflddafdhfaa
