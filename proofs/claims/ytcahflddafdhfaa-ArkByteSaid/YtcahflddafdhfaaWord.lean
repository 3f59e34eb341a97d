/- The contracts of word's functions: numbers as bytes, the highest first, and back. -/
import Derived.Test.YtcahflddafdhfaaCut
open Go.RowKit
namespace Go.Proofs.Ytcahflddafdhfaa

/-! ### what is reckoned -/
/-- Can a width be? -/
def wOk (x : Int) : Bool := decide (1 ≤ x ∧ x ≤ 8)
theorem wOk_true {x : Int} (h1 : 1 ≤ x) (h2 : x ≤ 8) : wOk x = true := by simp [wOk, h1, h2]
theorem wOk_false {x : Int} (h : x < 1 ∨ 8 < x) : wOk x = false := by simp [wOk]; omega
/-- So many bytes of a number, the highest first. -/
def be : Nat → Nat → List UInt8
  | 0, _ => []
  | k + 1, n => UInt8.ofNat (n / 256 ^ k % 256) :: be k n
theorem be_succ (k n : Nat) : be (k + 1) n = UInt8.ofNat (n / 256 ^ k % 256) :: be k n := rfl
theorem be_zero (n : Nat) : be 0 n = [] := rfl
theorem be_get (k n j : Nat) (h : j < k) : (be k n)[j]? = some (UInt8.ofNat (n / 256 ^ (k - 1 - j) % 256)) := by
  induction k generalizing j with
  | zero => omega
  | succ k ih =>
    cases j with
    | zero => simp [be]
    | succ j =>
      have := ih j (by omega)
      simp only [be, List.getElem?_cons_succ, this]
      congr 5
      omega
theorem be_length (k n : Nat) : (be k n).length = k := by
  induction k with
  | zero => rfl
  | succ k ih => simp [be, ih]
theorem be_take_succ (k n j : Nat) (h : j < k) : (be k n).take (j + 1) = (be k n).take j ++ [UInt8.ofNat (n / 256 ^ (k - 1 - j) % 256)] := by
  rw [List.take_add_one, be_get k n j h]; rfl
/-- A number behind bytes. -/
def wPut (b : List UInt8) (w : Int) (n : Nat) : List UInt8 := if wOk w = true then b ++ be w.toNat n else b
theorem wPut_ok {b : List UInt8} {w : Int} {n : Nat} (h : wOk w = true) : wPut b w n = b ++ be w.toNat n := by unfold wPut; rw [if_pos h]
theorem wPut_bad {b : List UInt8} {w : Int} {n : Nat} (h : wOk w = false) : wPut b w n = b := by unfold wPut; rw [if_neg (by rw [h]; decide)]
/-- Bytes as a number. -/
def beNum (l : List UInt8) : Nat := l.foldl (fun n c => n * 256 + c.toNat) 0
theorem beNum_snoc (l : List UInt8) (c : UInt8) : beNum (l ++ [c]) = beNum l * 256 + c.toNat := by simp [beNum]
theorem beNum_lt (l : List UInt8) : beNum l < 256 ^ l.length := by
  obtain ⟨r, rfl⟩ : ∃ r : List UInt8, l = r.reverse := ⟨l.reverse, by simp⟩
  induction r with
  | nil => simp [beNum]
  | cons c r ih =>
    rw [List.reverse_cons, beNum_snoc, List.length_append, List.length_singleton, Nat.pow_succ]
    have := c.toNat_lt
    omega
/-- Why no number can be got: 0 if it can. -/
def gErr (len : Nat) (at_ w : Int) : Nat := if w < 1 ∨ 8 < w ∨ at_ < 0 then 2 else if (len : Int) < at_ + w then 7 else 0
def gNum (l : List UInt8) (at_ w : Int) : Nat := if gErr l.length at_ w = 0 then beNum ((l.drop at_.toNat).take w.toNat) else 0
theorem gErr_bad {len : Nat} {at_ w : Int} (h : w < 1 ∨ 8 < w ∨ at_ < 0) : gErr len at_ w = 2 := by unfold gErr; rw [if_pos h]
theorem gErr_short {len : Nat} {at_ w : Int} (h : ¬ (w < 1 ∨ 8 < w ∨ at_ < 0)) (h2 : (len : Int) < at_ + w) : gErr len at_ w = 7 := by unfold gErr; rw [if_neg h, if_pos h2]
theorem gErr_ok {len : Nat} {at_ w : Int} (h : ¬ (w < 1 ∨ 8 < w ∨ at_ < 0)) (h2 : ¬ (len : Int) < at_ + w) : gErr len at_ w = 0 := by unfold gErr; rw [if_neg h, if_neg h2]
theorem gNum_ok {l : List UInt8} {at_ w : Int} (h : gErr l.length at_ w = 0) : gNum l at_ w = beNum ((l.drop at_.toNat).take w.toNat) := by unfold gNum; rw [if_pos h]
theorem gNum_bad {l : List UInt8} {at_ w : Int} (h : gErr l.length at_ w ≠ 0) : gNum l at_ w = 0 := by unfold gNum; rw [if_neg h]
attribute [irreducible] wOk be wPut beNum gErr gNum

/-! ### word.right -/
theorem right_any (x : Int) (w : World) : Calls Try.prog 52 #[.int .i64 x] w fun e w' => e = .returned (.bool (wOk x)) ∧ w = w' := by
  by_cases h1 : 1 ≤ x
  · by_cases h2 : x ≤ 8
    · have H := Lib.hid (wOk_true h1 h2)
      go_enter Try.func52, Try.ntmps52
      go_wp2
      go_ret
      exact ⟨by rw [H.out]; rfl, rfl⟩
    · have H := Lib.hid (wOk_false (x := x) (by omega))
      go_enter Try.func52, Try.ntmps52
      go_wp2
      go_ret
      exact ⟨by rw [H.out]; rfl, rfl⟩
  · have H := Lib.hid (wOk_false (x := x) (by omega))
    go_enter Try.func52, Try.ntmps52
    go_wp2
    go_ret
    exact ⟨by rw [H.out]; rfl, rfl⟩

/-! ### word.Get -/
theorem get_bad (A : Option Addr) (n c : Nat) (k x : Int) (h : x < 1 ∨ 8 < x ∨ k < 0) (w : World) :
    Calls Try.prog 37 #[.slice A n c, .int .i64 k, .int .i64 x] w fun e w' => e = .returned (.tuple #[.int .u64 0, .int .i64 2]) ∧ w = w' := by
  by_cases hw : wOk x = true
  · have hk : k < 0 := by
      rcases h with h | h | h
      · rw [wOk_false (.inl h)] at hw; cases hw
      · rw [wOk_false (.inr h)] at hw; cases hw
      · exact h
    clear h
    go_enter Try.func37, Try.ntmps37
    go_wp2_with (go_at_call 52; refine (right_any _ _).mono ?_; rintro e w1 ⟨rfl, rfl⟩)
    go_ret2
    exact ⟨rfl, rfl⟩
  · have hw' : wOk x = false := by simpa using hw
    clear hw h
    go_enter Try.func37, Try.ntmps37
    go_wp2_with (go_at_call 52; refine (right_any _ _).mono ?_; rintro e w1 ⟨rfl, rfl⟩)
    go_ret2
    exact ⟨rfl, rfl⟩

theorem get_short (A : Option Addr) (n c : Nat) (k x : Int) (h1 : 1 ≤ x) (h2 : x ≤ 8) (h3 : 0 ≤ k) (h4 : (n : Int) < k + x) (w : World) :
    Calls Try.prog 37 #[.slice A n c, .int .i64 k, .int .i64 x] w fun e w' => e = .returned (.tuple #[.int .u64 0, .int .i64 7]) ∧ w = w' := by
  have hw := wOk_true h1 h2
  by_cases hk : (n : Int) < k
  · go_enter Try.func37, Try.ntmps37
    go_wp2_with (go_at_call 52; refine (right_any _ _).mono ?_; rintro e w1 ⟨rfl, rfl⟩)
    go_ret2
    exact ⟨rfl, rfl⟩
  · go_enter Try.func37, Try.ntmps37
    go_wp2_with (go_at_call 52; refine (right_any _ _).mono ?_; rintro e w1 ⟨rfl, rfl⟩)
    go_ret2
    exact ⟨rfl, rfl⟩

theorem or_byte (n : Nat) (c : UInt8) (h : n * 256 < 18446744073709551616) : bits BinOp.or IntKind.u64 ((n : Int) * 256) (c.toNat : Int) = ((n * 256 + c.toNat : Nat) : Int) := by
  have hc := c.toNat_lt
  have := bits_join .u64 64 (by decide) (fun x h0 h1 => by rw [IntKind.wrap_u64]; omega) 8 ((n : Int) * 256) (c.toNat : Int) (by omega) (by omega) (by omega) (by omega) (by omega) (by omega)
  rw [this]; omega

theorem beNum_take_succ (l : List UInt8) (k : Nat) (h : k < l.length) : beNum (l.take (k + 1)) = beNum (l.take k) * 256 + l[k].toNat := by
  rw [List.take_succ_eq_append_getElem h, beNum_snoc]
theorem beNum_small (l : List UInt8) (k : Nat) (hk : k < 8) : beNum (l.take k) * 256 < 18446744073709551616 := by
  have h1 := beNum_lt (l.take k)
  have h2 : 256 ^ (l.take k).length ≤ 256 ^ 7 := Nat.pow_le_pow_right (by omega) (by simp; omega)
  have : (256 : Nat) ^ 7 = 72057594037927936 := by decide
  omega
theorem beNum_nil : beNum [] = 0 := by unfold beNum; rfl

set_option maxRecDepth 100000 in
theorem get_ok (A : Option Addr) (l : List UInt8) (c : Nat) (k x : Nat) (h1 : 1 ≤ x) (h2 : x ≤ 8) (h4 : k + x ≤ l.length) (w : World) (hr : Reads w 1 A l.length (bv l)) (hc : l.length ≤ c) (hm : l.length ≤ maxLen) :
    Calls Try.prog 37 #[.slice A l.length c, .int .i64 k, .int .i64 x] w fun e w' => e = .returned (.tuple #[.int .u64 (beNum ((l.drop k).take x) : Nat), .int .i64 0]) ∧ w = w' := by
  unfold maxLen at hm
  have hw := wOk_true (x := (x : Int)) (by omega) (by omega)
  obtain ⟨A', hcut, hA'⟩ := cutB_mid A c l k (k + x) (by omega) h4 hc
  have hR := hA' w hr
  have ex : k + x - k = x := by omega
  rw [ex] at hcut hR
  have hq : ((l.drop k).take x).length = x := by simp; omega
  generalize hQ : (l.drop k).take x = q at hR hq
  have hcut' : ∀ W : World, (Instr.slice 25 (.slice A l.length c) (some (.int .i64 (k : Int))) (some (.int .i64 ((k : Int) + (x : Int)))) none).run Try.prog W = .ok (.slice A' x (c - k)) W := by
    intro W
    have := hcut W
    rwa [Int.natCast_add] at this
  have HR := Lib.hid hR
  have Hq := Lib.hid hq
  clear hr hcut hA' ex hR hq hQ
  go_enter Try.func37, Try.ntmps37
  go_wp2_with (go_at_call 52; refine (right_any _ _).mono ?_; rintro e w1 ⟨rfl, rfl⟩)
  go_loop [8, 39] (fun y i => ∃ j m : Nat, j ≤ x ∧ i = .int .i64 j ∧ y = .int .u64 m ∧ Hid (m = beNum (q.take j))) (fun _ i => (x - (intOf i).toNat))
  case atStart => exact ⟨0, 0, by omega, rfl, rfl, by rw [List.take_zero, beNum_nil]; rfl⟩
  case round =>
    obtain ⟨j, m, hj, rfl, rfl, H⟩ := hrel
    clear hcut'
    by_cases hlt : j < x
    · have hjq : j < q.length := by rw [Hq.out]; exact hlt
      obtain ⟨ad, rfl, hv⟩ := HR.out.byte hjq
      have hlc : (q[j].toNat : Int) < 256 := by have := q[j].toNat_lt; omega
      have hsm := beNum_small q j (by omega)
      rw [← H.out] at hsm
      have hor := or_byte m q[j] hsm
      have hs := beNum_take_succ q j hjq
      rw [← H.out] at hs
      generalize q[j] = b at hv hlc hor hs
      have Hs := Lib.hid hs
      have Hsm := Lib.hid hsm
      have hwr : IntKind.u64.wrap ((m : Int) * 256) = (m : Int) * 256 := by rw [IntKind.wrap_u64]; omega
      clear hs hsm hjq
      go_wp2
      go_round
      case rel => exact ⟨j + 1, m * 256 + b.toNat, by omega, by go_num, rfl, Hs.out.symm⟩
      case measure => simp [intOf]; omega
    · obtain rfl : j = x := by omega
      rw [List.take_of_length_le (by rw [Hq.out]; exact Nat.le_refl _)] at H
      go_wp2
      go_ret2
      exact ⟨by rw [← H.out]; rfl, rfl⟩

/-- Whatever is asked. -/
theorem get_any (A : Option Addr) (l : List UInt8) (c : Nat) (k x : Int) (w : World) (hr : Reads w 1 A l.length (bv l)) (hc : l.length ≤ c) (hm : l.length ≤ maxLen) :
    Calls Try.prog 37 #[.slice A l.length c, .int .i64 k, .int .i64 x] w fun e w' => e = .returned (.tuple #[.int .u64 (gNum l k x : Nat), .int .i64 (gErr l.length k x : Nat)]) ∧ w = w' := by
  by_cases hb : x < 1 ∨ 8 < x ∨ k < 0
  · have he := gErr_bad (len := l.length) hb
    rw [gNum_bad (by rw [he]; decide), he]
    exact get_bad A _ c k x hb w
  · by_cases hs : (l.length : Int) < k + x
    · have he := gErr_short hb hs
      rw [gNum_bad (by rw [he]; decide), he]
      exact get_short A _ c k x (by omega) (by omega) (by omega) hs w
    · have he := gErr_ok hb hs
      rw [gNum_ok he, he]
      obtain ⟨k, rfl⟩ := Int.eq_ofNat_of_zero_le (show 0 ≤ k by omega)
      obtain ⟨x, rfl⟩ := Int.eq_ofNat_of_zero_le (show 0 ≤ x by omega)
      exact get_ok A l c k x (by omega) (by omega) (by omega) w hr hc hm

/-! ### word.Put -/
theorem shr_byte (n k j : Nat) : ((UInt8.ofNat (n / 256 ^ (k - 1 - j) % 256)).toNat : Int) = (n : Int) / 2 ^ (8 * (k - 1 - j)) % 256 := by
  have e : (256 : Nat) ^ (k - 1 - j) = 2 ^ (8 * (k - 1 - j)) := by rw [show (256 : Nat) = 2 ^ 8 by decide, ← Nat.pow_mul]
  rw [e, UInt8.toNat_ofNat']
  have : n / 2 ^ (8 * (k - 1 - j)) % 256 % 2 ^ 8 = n / 2 ^ (8 * (k - 1 - j)) % 256 := by omega
  rw [this]
  simp
set_option maxRecDepth 100000 in
theorem put_any (A : Option Addr) (l : List UInt8) (c : Nat) (x : Int) (n : Nat) (hn : n < 18446744073709551616) (w : World) (hr : Reads w 1 A l.length (bv l)) (hl : l.length + 8 ≤ 140737488355328) :
    Calls Try.prog 31 #[.slice A l.length c, .int .i64 x, .int .u64 n] w fun e w' => ∃ A' c', e = .returned (.slice A' (wPut l x n).length c') ∧ OwnB w' w.heap.size A' c' (wPut l x n) ∧ Below w.heap.size w w' := by
  have Hn := Lib.hid hn
  have Hr := Lib.hid hr
  clear hn hr
  go_enter Try.func31, Try.ntmps31
  go_wp2_with (at_make; refine wpList_make_bytes w w.heap.size rfl (.const (.int .i64 0)) (.tmp 11) rfl .i64 .i64 _ (l.length + 8) rfl rfl (by omega) (by omega) (Below.refl _ _) (Nat.le_refl _) ?_)
  intro A1 w1 hown1 hb1 hB1
  have Ho1 := Lib.hid hown1
  have Hb1 := Lib.hid hb1
  clear hown1 hb1
  go_wp2_with (at_builtin; refine wpList_append_bytes w w.heap.size rfl (.tmp 13) (.tmp 14) rfl A1 (l.length + 8) [] rfl Ho1.out A c l rfl (Hr.out.below Hb1.out) (by simp; omega) Hb1.out hB1 ?_)
  intro A2 c2 L w2 hL hown2 hb2 hB2
  obtain rfl : L = l := by simpa using hL.out
  have Ho2 := Lib.hid hown2
  have Hb2 := Lib.hid hb2
  clear hown2 hb2 hL Ho1 Hb1 hB1 Hr
  by_cases hw : wOk x = true
  · have hx : 1 ≤ x ∧ x ≤ 8 := by unfold wOk at hw; simpa using hw
    obtain ⟨k, rfl⟩ := Int.eq_ofNat_of_zero_le (show 0 ≤ x by omega)
    have Hp := Lib.hid (wPut_ok (b := L) (n := n) hw)
    have Hbl := Lib.hid (be_length k n)
    have hk1 : 1 ≤ k := by omega
    have hk8 : k ≤ 8 := by omega
    clear hx
    go_wp2_with (go_at_call 52; refine (right_any _ _).mono ?_; rintro e w3 ⟨rfl, rfl⟩)
    go_loopw [7, 8] (fun v i wr => ∃ (j : Nat) (s : Int) (A3 : Option Addr) (c3 : Nat) (M : List UInt8), j ≤ k ∧ s = 8 * (k : Int) - 8 * (j : Int) - 8 ∧ i = .int .i64 s ∧ Hid (M = L ++ (be k n).take j) ∧ v = .slice A3 M.length c3 ∧ Hid (OwnB wr w.heap.size A3 c3 M) ∧ Hid (Below w.heap.size w wr) ∧ w.heap.size ≤ wr.heap.size) (fun _ i _ => (intOf i + 8).toNat)
    case atStart => exact ⟨0, _, A2, c2, L, by omega, rfl, by go_num, by show _ = _; simp, rfl, Ho2, Hb2, hB2⟩
    case round =>
      obtain ⟨j, s, A3, c3, M, hj, hs, rfl, hM, rfl, Ho3, Hb3, hB3⟩ := hrel
      clear Ho2 Hb2 hB2
      have hMl : M.length = L.length + j := by rw [hM.out, List.length_append, List.length_take, Hbl.out]; omega
      by_cases hjk : j < k
      · have Hsh := Lib.hid (shr_byte n k j)
        have Hts := Lib.hid (be_take_succ k n j hjk)
        generalize UInt8.ofNat (n / 256 ^ (k - 1 - j) % 256) = b at Hsh Hts
        obtain ⟨q, rfl⟩ := Int.eq_ofNat_of_zero_le (show 0 ≤ s by omega)
        have hq : q = 8 * (k - 1 - j) := by omega
        rw [← hq] at Hsh
        have hq56 : q ≤ 56 := by omega
        have hM8 : M.length + 1 ≤ 140737488355328 := by omega
        have Hs := Lib.hid hs
        clear hq hs hMl
        have hrb : Reads (wr.alloc (.cells #[.int .u8 (b.toNat : Int)] 5)) 1 (some ⟨wr.heap.size, 0, none⟩) [b].length (bv [b]) := Reads.of_block (n := 1) (heap_alloc_new _ _) rfl
        have Hrb := Lib.hid hrb
        clear hrb
        go_wp2_with (at_builtin; rw [← Hsh.out]; refine wpList_append_bytes w w.heap.size rfl (.tmp 27) (.tmp 32) rfl A3 c3 M rfl (Ho3.out.alloc _) (some ⟨wr.heap.size, 0, none⟩) 1 [b] rfl Hrb.out (by simp; omega) (Hb3.out.alloc hB3 _) (by simp; omega) ?_)
        intro A4 c4 M' w4 hM' hown4 hb4 hB4
        have Ho4 := Lib.hid hown4
        have Hb4 := Lib.hid hb4
        clear hown4 hb4 Hrb Ho3 Hb3 hB3
        go_wp2
        go_roundw
        case rel => exact ⟨j + 1, (q : Int) - 8, A4, c4, M', by omega, by have := Hs.out; omega, by go_num, by show _ = _; rw [hM'.out, hM.out, Hts.out, List.append_assoc], rfl, Ho4, Hb4, hB4⟩
        case measure => simp [intOf]; omega
      · obtain rfl : j = k := by omega
        have hM2 : M = wPut L (j : Int) n := by rw [hM.out, Hp.out, List.take_of_length_le (by rw [Hbl.out]; exact Nat.le_refl _), Int.toNat_natCast]
        have HM2 := Lib.hid hM2
        clear hM2 hM hMl
        go_wp2
        go_ret
        rw [← HM2.out]
        exact ⟨A3, c3, rfl, Ho3.out, Hb3.out⟩
  · have hw' : wOk x = false := by simpa using hw
    have Hp := Lib.hid (wPut_bad (b := L) (n := n) hw')
    clear hw
    go_wp2_with (go_at_call 52; refine (right_any _ _).mono ?_; rintro e w3 ⟨rfl, rfl⟩)
    go_ret
    rw [Hp.out]
    exact ⟨A2, c2, rfl, Ho2.out, Hb2.out⟩

end Go.Proofs.Ytcahflddafdhfaa
