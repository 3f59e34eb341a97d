/- The contracts of word's references: the same bytes, the same numbers. -/
import Derived.Test.YtcahflddafdhfaaWord
open Go.RowKit
namespace Go.Proofs.Ytcahflddafdhfaa

set_option maxRecDepth 100000 in
theorem refPut_any (A : Option Addr) (l : List UInt8) (c : Nat) (x : Int) (n : Nat) (hn : n < 18446744073709551616) (w : World) (hr : Reads w 1 A l.length (bv l)) (hl : l.length + 8 ≤ 140737488355328) :
    Calls Try.prog 55 #[.slice A l.length c, .int .i64 x, .int .u64 n] w fun e w' => ∃ A' c', e = .returned (.slice A' (wPut l x n).length c') ∧ OwnB w' w.heap.size A' c' (wPut l x n) ∧ Below w.heap.size w w' := by
  have Hn := Lib.hid hn
  have Hr := Lib.hid hr
  clear hn hr
  go_enter Try.func55, Try.ntmps55
  go_wp2_with (at_builtin; refine wpList_append_bytes w w.heap.size rfl (.tmp 9) (.tmp 10) rfl none 0 [] rfl (OwnB.nil _ _) A c l rfl Hr.out (by simp; omega) (Below.refl _ _) (Nat.le_refl _) ?_)
  intro A2 c2 L w2 hL hown2 hb2 hB2
  obtain rfl : L = l := by simpa using hL.out
  have Ho2 := Lib.hid hown2
  have Hb2 := Lib.hid hb2
  clear hown2 hb2 hL Hr
  by_cases hw : wOk x = true
  · have hx : 1 ≤ x ∧ x ≤ 8 := by unfold wOk at hw; simpa using hw
    obtain ⟨k, rfl⟩ := Int.eq_ofNat_of_zero_le (show 0 ≤ x by omega)
    have Hp := Lib.hid (wPut_ok (b := L) (n := n) hw)
    have Hbl := Lib.hid (be_length k n)
    have hk1 : 1 ≤ k := by omega
    have hk8 : k ≤ 8 := by omega
    clear hx
    go_wp2
    go_loopw [7, 8] (fun v i wr => ∃ (j : Nat) (s : Int) (A3 : Option Addr) (c3 : Nat) (M : List UInt8), j ≤ k ∧ s = (k : Int) - (j : Int) - 1 ∧ i = .int .i64 s ∧ Hid (M = L ++ (be k n).take j) ∧ v = .slice A3 M.length c3 ∧ Hid (OwnB wr w.heap.size A3 c3 M) ∧ Hid (Below w.heap.size w wr) ∧ w.heap.size ≤ wr.heap.size) (fun _ i _ => (intOf i + 1).toNat)
    case atStart => exact ⟨0, _, A2, c2, L, by omega, rfl, by go_num, by show _ = _; simp, rfl, Ho2, Hb2, hB2⟩
    case round =>
      obtain ⟨j, s, A3, c3, M, hj, hs, rfl, hM, rfl, Ho3, Hb3, hB3⟩ := hrel
      clear Ho2 Hb2 hB2
      have hMl : M.length = L.length + j := by rw [hM.out, List.length_append, List.length_take, Hbl.out]; omega
      by_cases hjk : j < k
      · have Hsh := Lib.hid (shr_byte n k j)
        have Hts := Lib.hid (be_take_succ k n j hjk)
        generalize UInt8.ofNat (n / 256 ^ (k - 1 - j) % 256) = b at Hsh Hts
        obtain ⟨q, rfl⟩ := Int.eq_ofNat_of_zero_le (show 0 ≤ s by omega)
        have hq : 8 * q = 8 * (k - 1 - j) := by omega
        rw [← hq] at Hsh
        have hq56 : q ≤ 7 := by omega
        have hM8 : M.length + 1 ≤ 140737488355328 := by omega
        have Hs := Lib.hid hs
        have hrb : Reads (wr.alloc (.cells #[.int .u8 (b.toNat : Int)] 5)) 1 (some ⟨wr.heap.size, 0, none⟩) [b].length (bv [b]) := Reads.of_block (n := 1) (heap_alloc_new _ _) rfl
        have Hrb := Lib.hid hrb
        clear hq hs hMl hrb
        go_wp2_with (at_builtin; go_loud (rw [← Hsh.out]; refine wpList_append_bytes w w.heap.size rfl (.tmp 25) (.tmp 32) rfl A3 c3 M rfl (Ho3.out.alloc _) (some ⟨wr.heap.size, 0, none⟩) 1 [b] rfl Hrb.out (by simp; omega) (Hb3.out.alloc hB3 _) (by simp; omega) ?_))
        intro A4 c4 M' w4 hM' hown4 hb4 hB4
        have Ho4 := Lib.hid hown4
        have Hb4 := Lib.hid hb4
        clear hown4 hb4 Hrb Ho3 Hb3 hB3
        go_wp2
        go_roundw
        case rel => exact ⟨j + 1, (q : Int) - 1, A4, c4, M', by omega, by have := Hs.out; omega, by go_num, by show _ = _; rw [hM'.out, hM.out, Hts.out, List.append_assoc], rfl, Ho4, Hb4, hB4⟩
        case measure => simp [intOf] <;> omega
      · obtain rfl : j = k := by omega
        have hM2 : M = wPut L (j : Int) n := by rw [hM.out, Hp.out, List.take_of_length_le (by rw [Hbl.out]; exact Nat.le_refl _), Int.toNat_natCast]
        have HM2 := Lib.hid hM2
        clear hM2 hM hMl
        go_wp2
        go_ret
        rw [← HM2.out]
        exact ⟨A3, c3, rfl, Ho3.out, Hb3.out⟩
  · have hw' : wOk x = false := by simpa using hw
    have Hp := Lib.hid (wPut_bad (b := L) (n := n) hw')
    have hx : x < 1 ∨ 8 < x := by unfold wOk at hw'; simp at hw'; omega
    clear hw hw'
    rcases hx with hx | hx
    · go_wp2
      go_ret
      rw [Hp.out]
      exact ⟨A2, c2, rfl, Ho2.out, Hb2.out⟩
    · go_wp2
      go_ret
      rw [Hp.out]
      exact ⟨A2, c2, rfl, Ho2.out, Hb2.out⟩

theorem refGet_bad (A : Option Addr) (n c : Nat) (k x : Int) (h : x < 1 ∨ 8 < x ∨ k < 0) (w : World) :
    Calls Try.prog 65 #[.slice A n c, .int .i64 k, .int .i64 x] w fun e w' => e = .returned (.tuple #[.int .u64 0, .int .i64 2]) ∧ w = w' := by
  by_cases h1 : x < 1
  · clear h
    go_enter Try.func65, Try.ntmps65
    go_wp2
    go_ret2
    exact ⟨rfl, rfl⟩
  by_cases h2 : 8 < x
  · clear h
    go_enter Try.func65, Try.ntmps65
    go_wp2
    go_ret2
    exact ⟨rfl, rfl⟩
  have h3 : k < 0 := by omega
  clear h
  go_enter Try.func65, Try.ntmps65
  go_wp2
  go_ret2
  exact ⟨rfl, rfl⟩

theorem refGet_short (A : Option Addr) (n c : Nat) (k x : Int) (h1 : 1 ≤ x) (h2 : x ≤ 8) (h3 : 0 ≤ k) (h4 : (n : Int) < k + x) (w : World) :
    Calls Try.prog 65 #[.slice A n c, .int .i64 k, .int .i64 x] w fun e w' => e = .returned (.tuple #[.int .u64 0, .int .i64 7]) ∧ w = w' := by
  by_cases hk : (n : Int) < k
  · go_enter Try.func65, Try.ntmps65
    go_wp2
    go_ret2
    exact ⟨rfl, rfl⟩
  · go_enter Try.func65, Try.ntmps65
    go_wp2
    go_ret2
    exact ⟨rfl, rfl⟩

set_option maxRecDepth 100000 in
theorem refGet_ok (A : Option Addr) (l : List UInt8) (c : Nat) (k x : Nat) (h1 : 1 ≤ x) (h2 : x ≤ 8) (h4 : k + x ≤ l.length) (w : World) (hr : Reads w 1 A l.length (bv l)) (hm : l.length ≤ maxLen) :
    Calls Try.prog 65 #[.slice A l.length c, .int .i64 k, .int .i64 x] w fun e w' => e = .returned (.tuple #[.int .u64 (beNum ((l.drop k).take x) : Nat), .int .i64 0]) ∧ w = w' := by
  unfold maxLen at hm
  have hq : ((l.drop k).take x).length = x := by simp; omega
  have hget : ∀ j (hj : j < x), ((l.drop k).take x)[j]? = some (l[k + j]'(Nat.lt_of_lt_of_le (Nat.add_lt_add_left hj k) h4)) := by
    intro j hj
    rw [List.getElem?_take_of_lt hj, List.getElem?_drop, List.getElem?_eq_getElem]
  generalize hQ : (l.drop k).take x = q at hq hget
  have Hr := Lib.hid hr
  have Hq := Lib.hid hq
  have Hget := Lib.hid hget
  clear hr hq hQ hget
  go_enter Try.func65, Try.ntmps65
  go_wp2
  go_loop [8, 9] (fun y i => ∃ j m : Nat, j ≤ x ∧ i = .int .i64 j ∧ y = .int .u64 m ∧ Hid (m = beNum (q.take j))) (fun _ i => (x - (intOf i).toNat))
  case atStart => exact ⟨0, 0, by omega, rfl, rfl, by rw [List.take_zero, beNum_nil]; rfl⟩
  case round =>
    obtain ⟨j, m, hj, rfl, rfl, H⟩ := hrel
    by_cases hlt : j < x
    · have hjq : j < q.length := by rw [Hq.out]; exact hlt
      have hjl : k + j < l.length := by omega
      obtain ⟨ad, rfl, hv⟩ := Hr.out.byte hjl
      have hqe : q[j] = l[k + j] := by
        have := Hget.out j hlt
        rw [List.getElem?_eq_getElem hjq] at this
        injection this
      have hsm := beNum_small q j (by omega)
      rw [← H.out] at hsm
      have hs := beNum_take_succ q j hjq
      rw [← H.out, hqe] at hs
      have hlc : (l[k + j].toNat : Int) < 256 := by have := l[k + j].toNat_lt; omega
      clear hqe
      generalize l[k + j] = b at hv hlc hs
      have Hs := Lib.hid hs
      have hwr : IntKind.u64.wrap ((m : Int) * 256) = (m : Int) * 256 := by rw [IntKind.wrap_u64]; omega
      have hwr2 : IntKind.u64.wrap ((m : Int) * 256 + (b.toNat : Int)) = (m : Int) * 256 + (b.toNat : Int) := by rw [IntKind.wrap_u64]; omega
      clear hs hsm hjq
      go_wp2
      go_round
      case rel => exact ⟨j + 1, m * 256 + b.toNat, by omega, by go_num, by go_num, Hs.out.symm⟩
      case measure => simp [intOf]; omega
    · obtain rfl : j = x := by omega
      rw [List.take_of_length_le (by rw [Hq.out]; exact Nat.le_refl _)] at H
      go_wp2
      go_ret2
      exact ⟨by rw [← H.out]; rfl, rfl⟩

theorem refGet_any (A : Option Addr) (l : List UInt8) (c : Nat) (k x : Int) (w : World) (hr : Reads w 1 A l.length (bv l)) (hm : l.length ≤ maxLen) :
    Calls Try.prog 65 #[.slice A l.length c, .int .i64 k, .int .i64 x] w fun e w' => e = .returned (.tuple #[.int .u64 (gNum l k x : Nat), .int .i64 (gErr l.length k x : Nat)]) ∧ w = w' := by
  by_cases hb : x < 1 ∨ 8 < x ∨ k < 0
  · have he := gErr_bad (len := l.length) hb
    rw [gNum_bad (by rw [he]; decide), he]
    exact refGet_bad A _ c k x hb w
  · by_cases hs : (l.length : Int) < k + x
    · have he := gErr_short hb hs
      rw [gNum_bad (by rw [he]; decide), he]
      exact refGet_short A _ c k x (by omega) (by omega) (by omega) hs w
    · have he := gErr_ok hb hs
      rw [gNum_ok he, he]
      obtain ⟨k, rfl⟩ := Int.eq_ofNat_of_zero_le (show 0 ≤ k by omega)
      obtain ⟨x, rfl⟩ := Int.eq_ofNat_of_zero_le (show 0 ≤ x by omega)
      exact refGet_ok A l c k x (by omega) (by omega) (by omega) w hr hm

end Go.Proofs.Ytcahflddafdhfaa
