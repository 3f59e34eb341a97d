/- The walk of WordBack. -/
import Derived.Test.YtlfclpdcingpnaaLaw01
import Derived.Test.YtlfclpdcingpnaaWordMath
open Go.RowKit
namespace Go.Proofs.Ytlfclpdcingpnaa

set_option maxRecDepth 100000 in
theorem wordBack_any (A : Option Addr) (l : List UInt8) (c : Nat) (x : Int) (n : Nat) (hn : n < 18446744073709551616) (w : World) (hr : Reads w 1 A l.length (bv l)) (hl : l.length + 8 ≤ 140737488355328) :
    Calls Try.prog 7 #[.slice A l.length c, .int .i64 x, .int .u64 n] w fun e w' => e = .returned (.bool true) ∧ Below w.heap.size w w' := by
  have Hn := Lib.hid hn
  have Hr := Lib.hid hr
  clear hn hr
  by_cases h1 : x < 1
  · go_enter Try.func7, Try.ntmps7
    go_wp2_with (go_at_call 21; refine (known01_any _).mono ?_; rintro e w1 ⟨rfl, hb1⟩)
    go_ret
    exact ⟨rfl, hb1⟩
  by_cases h2 : 8 < x
  · go_enter Try.func7, Try.ntmps7
    go_wp2_with (go_at_call 21; refine (known01_any _).mono ?_; rintro e w1 ⟨rfl, hb1⟩)
    go_ret
    exact ⟨rfl, hb1⟩
  obtain ⟨k, rfl⟩ := Int.eq_ofNat_of_zero_le (show 0 ≤ x by omega)
  have HE := Lib.hid (gErr_back l k (by omega) (by omega) n)
  have HN := Lib.hid (gNum_back l k (by omega) (by omega) n)
  go_enter Try.func7, Try.ntmps7
  go_wp2_with fail
  refine (put_any A l c k n Hn.out w Hr.out hl).mono ?_
  rintro e w1 ⟨A1, c1, rfl, how1, hb1⟩
  have Ho1 := Lib.hid how1
  have Hb1 := Lib.hid hb1
  clear how1 hb1
  go_wp2_with fail
  refine (get_any A1 (wPut l k n) c1 l.length k w1 Ho1.out.reads Ho1.out.cap Ho1.out.max).mono ?_
  rintro e w2 ⟨rfl, rfl⟩
  by_cases h8 : k < 8
  · rw [HE.out, HN.out]
    have hwr : IntKind.u64.wrap (2 ^ (8 * k)) = (256 : Int) ^ k := by
      have e : (256 : Nat) ^ k = 2 ^ (8 * k) := by rw [show (256 : Nat) = 2 ^ 8 by decide, ← Nat.pow_mul]
      have e2 : ((2 : Int) ^ (8 * k)) = ((256 ^ k : Nat) : Int) := by rw [e]; simp
      have h3 : (256 : Nat) ^ k ≤ 256 ^ 7 := Nat.pow_le_pow_right (by omega) (by omega)
      have h4 : (256 : Nat) ^ 7 = 72057594037927936 := by decide
      rw [e2, IntKind.wrap_u64]
      have h5 : ((256 : Int) ^ k) = ((256 ^ k : Nat) : Int) := by simp
      rw [h5]
      exact Int.emod_eq_of_lt (Int.natCast_nonneg _) (Int.ofNat_lt.2 (Nat.lt_of_le_of_lt h3 (by rw [h4]; decide)))
    have hne : ¬ (256 : Int) ^ k = 0 := Int.ne_of_gt (Int.pow_pos (by decide))
    go_wp2_with (go_at_call 21; refine (known01_any _).mono ?_; rintro e w3 ⟨rfl, hb3⟩)
    go_ret
    exact ⟨rfl, below_fresh Hb1.out hb3⟩
  · obtain rfl : k = 8 := by omega
    have hn8 : n % 256 ^ 8 = n := Nat.mod_eq_of_lt Hn.out
    rw [HE.out, HN.out, hn8]
    clear hn8 h8
    go_wp2_with (go_at_call 21; refine (known01_any _).mono ?_; rintro e w3 ⟨rfl, hb3⟩)
    go_ret
    exact ⟨rfl, below_fresh Hb1.out hb3⟩

end Go.Proofs.Ytlfclpdcingpnaa
