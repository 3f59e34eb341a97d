/- The contracts of the references of crc: the same numbers. -/
import Derived.Test.YtcahflddafdhfaaCrc
open Go.RowKit
namespace Go.Proofs.Ytcahflddafdhfaa

theorem refEntry_any (x : Int) (h0 : 0 ≤ x) (h1 : x < 256) (w : World) :
    Calls Try.prog 67 #[.int .u8 x] w fun e w' => e = .returned (.int .u32 (crcSteps 8 x.toNat : Nat)) ∧ w = w' := by
  obtain ⟨n, rfl⟩ := Int.eq_ofNat_of_zero_le h0
  rw [Int.toNat_natCast] at *
  have hn : n < 4294967296 := by omega
  clear h0 h1
  go_enter Try.func67, Try.ntmps67
  go_wp2
  go_loop [3, 4] (fun x i => ∃ k m : Nat, k ≤ 8 ∧ i = .int .i64 k ∧ m < 4294967296 ∧ x = .int .u32 m ∧ Hid (crcSteps (8 - k) m = crcSteps 8 n)) (fun _ i => (8 - intOf i).toNat)
  case atStart => exact ⟨0, n, by omega, rfl, by omega, rfl, rfl⟩
  case round =>
    obtain ⟨k, m, hk, rfl, hm, rfl, H⟩ := hrel
    by_cases hlt : k < 8
    · have ek : 8 - k = (8 - (k + 1)) + 1 := by omega
      rw [ek, crcSteps_succ] at H
      clear ek
      by_cases ho : m % 2 = 1
      · have hb : (((m : Int) % 2) == 1) = true := by rw [beq_iff_eq]; omega
        clear ho
        go_wp2
        have ho : m % 2 = 1 := by rw [beq_iff_eq] at hb; omega
        refine ⟨⟨k + 1, crcStep m, by omega, by go_num, crcStep_lt hm, ?_, H⟩, by simp [intOf]; omega⟩
        rw [crcStep_odd ho, ← u32_xor_nat _ _ (by omega) (by omega)]
        rfl
      · have hb : (((m : Int) % 2) == 1) = false := by rw [beq_eq_false_iff_ne]; omega
        clear ho
        go_wp2
        have ho : ¬ m % 2 = 1 := by rw [beq_eq_false_iff_ne] at hb; omega
        refine ⟨⟨k + 1, crcStep m, by omega, by go_num, crcStep_lt hm, ?_, H⟩, by simp [intOf]; omega⟩
        rw [crcStep_even ho]
        rfl
    · have ek : 8 - k = 0 := by omega
      rw [ek, crcSteps_zero] at H
      go_wp2
      go_ret
      exact ⟨by rw [← H.out]; rfl, rfl⟩

set_option maxRecDepth 100000 in
theorem refAdd_any (x : Int) (hx : U32 x) (A : Option Addr) (l : List UInt8) (c : Nat) (w : World) (hr : Reads w 1 A l.length (bv l)) (hm : l.length ≤ maxLen) :
    Calls Try.prog 56 #[.int .u32 x, .slice A l.length c] w fun e w' => e = .returned (.int .u32 (crcAdd x.toNat l : Nat)) ∧ w = w' := by
  unfold maxLen at hm
  have hn : x.toNat < 4294967296 := by unfold U32 at hx; omega
  obtain ⟨n, rfl⟩ := Int.eq_ofNat_of_zero_le hx.1
  rw [Int.toNat_natCast] at *
  have hsg : IntKind.u32.signed = false := rfl
  have hnot := not_u32 n hn
  have Hr := Lib.hid hr
  clear hr hx
  go_enter Try.func56, Try.ntmps56
  go_wp2
  go_loop [5, 6] (fun x i => ∃ k m : Nat, k ≤ l.length ∧ i = .int .i64 k ∧ x = .int .u32 m ∧ m < 4294967296 ∧ Hid (m = (l.take k).foldl crcByte (unot32 n))) (fun _ i => (l.length - (intOf i).toNat))
  case atStart => exact ⟨0, unot32 n, by omega, rfl, rfl, unot32_lt n, rfl⟩
  case round =>
    obtain ⟨k, m, hk, rfl, rfl, hm, H⟩ := hrel
    clear hnot
    by_cases hlt : k < l.length
    · obtain ⟨ad, rfl, hv⟩ := Hr.out.byte hlt
      have hlc : l[k].toNat < 256 := l[k].toNat_lt
      have hx8 : bits BinOp.xor IntKind.u8 ((m : Int) % 256) (l[k].toNat : Int) = (((m % 256) ^^^ l[k].toNat : Nat) : Int) := u8_xor_nat (m % 256) _ (by omega) hlc
      have hj : (m % 256) ^^^ l[k].toNat < 256 := Nat.xor_lt_two_pow (n := 8) (by omega) hlc
      have hB : crcByte m l[k] = (m / 256) ^^^ crcSteps 8 ((m % 256) ^^^ l[k].toNat) := rfl
      generalize (m % 256) ^^^ l[k].toNat = j at hx8 hj hB
      have HB := Lib.hid hB
      clear hB hlc
      go_wp2_with (go_at_call 67; refine (refEntry_any _ (by omega) (by omega) _).mono ?_; rintro e w1 ⟨rfl, rfl⟩)
      go_round
      case rel =>
        refine ⟨k + 1, crcByte m l[k], by omega, by go_num, ?_, crcByte_lt _ _ hm, ?_⟩
        · rw [HB.out, ← u32_xor_nat _ _ (by omega) (crcSteps_lt 8 (by omega))]; rfl
        · show _ = _
          rw [List.take_succ_eq_append_getElem hlt, List.foldl_append, ← H.out]; rfl
      case measure => simp [intOf]; omega
    · have hk' : k = l.length := by omega
      subst hk'
      rw [List.take_length] at H
      have hnot := not_u32 m hm
      go_wp2
      go_ret
      refine ⟨?_, rfl⟩
      unfold crcAdd
      rw [← H.out]; rfl

theorem refSum_any (A : Option Addr) (l : List UInt8) (c : Nat) (w : World) (hr : Reads w 1 A l.length (bv l)) (hm : l.length ≤ maxLen) :
    Calls Try.prog 36 #[.slice A l.length c] w fun e w' => e = .returned (.int .u32 (crcAdd 0 l : Nat)) ∧ w = w' := by
  go_enter Try.func36, Try.ntmps36
  go_wp2_with (go_at_call 56; refine (refAdd_any 0 ⟨by omega, by omega⟩ _ _ _ _ hr hm).mono ?_; rintro e w1 ⟨rfl, rfl⟩)
  go_ret
  exact ⟨rfl, rfl⟩

end Go.Proofs.Ytcahflddafdhfaa
