/- The walks of crc's laws: each returns true. -/
import Derived.Test.YtlfclpdcingpnaaCrcRef
import Derived.Lib.SlBytesConst
open Go.RowKit
namespace Go.Proofs.Ytlfclpdcingpnaa

theorem crc_digits : ((crcAdd 0 [49, 50, 51, 52, 53, 54, 55, 56, 57] : Nat) : Int) = 3808858755 := by
  have h : crcAdd 0 [49, 50, 51, 52, 53, 54, 55, 56, 57] = 3808858755 := by decide +kernel
  rw [h]; rfl
theorem crc_one : ((crcSteps 8 (1 : UInt8).toNat : Nat) : Int) = 4067132163 := by
  have h : crcSteps 8 (1 : UInt8).toNat = 4067132163 := by decide +kernel
  rw [h]; rfl

theorem known02_any (w : World) : Calls Try.prog 10 #[] w fun e w' => e = .returned (.bool true) ∧ Below w.heap.size w w' := by
  have h1 : ∀ W : World, Calls Try.prog 11 #[.slice (some ⟨W.heap.size, 0, none⟩) 9 9] (W.alloc (.cells #[.int .u8 49, .int .u8 50, .int .u8 51, .int .u8 52, .int .u8 53, .int .u8 54, .int .u8 55, .int .u8 56, .int .u8 57] 5 (9, 10))) fun e w' => e = .returned (.int .u32 3808858755) ∧ Below W.heap.size W w' := by
    intro W
    have hr := Reads.of_block (n := 9) (sz := 1) (heap_alloc_new W (.cells #[.int .u8 49, .int .u8 50, .int .u8 51, .int .u8 52, .int .u8 53, .int .u8 54, .int .u8 55, .int .u8 56, .int .u8 57] 5 (9, 10))) rfl
    refine (crcSum_any (some ⟨W.heap.size, 0, none⟩) [49, 50, 51, 52, 53, 54, 55, 56, 57] 9 _ hr (by decide)).mono ?_
    rintro e w' ⟨rfl, hb⟩
    exact ⟨by rw [crc_digits], ((Below.refl _ _).alloc (Nat.le_refl _) _).trans (hb.mono (by simp))⟩
  have h2 : ∀ W : World, Calls Try.prog 15 #[.int .u8 1] W fun e w' => e = .returned (.int .u32 4067132163) ∧ W = w' := by
    intro W
    refine (crcEntry_any 1 W).mono ?_
    rintro e w' ⟨rfl, rfl⟩
    exact ⟨by rw [crc_one], rfl⟩
  have kc := fun (w : World) (C : Array Value) (n c : Nat) => Lib.run_convert_bytes_const (P := Try.prog) w 22 5 C n c Try.underlying22 Try.underlying5
  have H1 := Lib.hid h1
  have H2 := Lib.hid h2
  clear h1 h2
  go_enter Try.func10, Try.ntmps10
  go_wp2_with (first | (go_at_call 11; refine (H1.out _).mono ?_; rintro e w1 ⟨rfl, hb1⟩) | (go_at_call 15; refine (H2.out _).mono ?_; rintro e w2 ⟨rfl, rfl⟩))
  go_ret
  exact ⟨rfl, hb1⟩

set_option maxRecDepth 100000 in
theorem crcSums_any (A : Option Addr) (l : List UInt8) (c : Nat) (x : Int) (hx : U32 x) (b : UInt8) (w : World) (hr : Reads w 1 A l.length (bv l)) (hm : l.length ≤ maxLen) :
    Calls Try.prog 3 #[.slice A l.length c, .int .u32 x, .int .u8 (b.toNat : Int)] w fun e w' => e = .returned (.bool true) ∧ Below w.heap.size w w' := by
  have Hr := Lib.hid hr
  have Hm := Lib.hid hm
  have Hx := Lib.hid hx
  have hbn : (b.toNat : Int) < 256 := by have := b.toNat_lt; omega
  have Hb := Lib.hid hbn
  have hm' := hm
  unfold maxLen at hm'
  clear hr hm hx hbn
  by_cases hl : 10000 < l.length
  · go_enter Try.func3, Try.ntmps3
    go_wp2_with (go_at_call 10; refine (known02_any _).mono ?_; rintro e w1 ⟨rfl, hb1⟩)
    go_ret
    exact ⟨rfl, hb1⟩
  · go_enter Try.func3, Try.ntmps3
    go_wp2_with fail
    refine (crcSum_any _ _ _ _ Hr.out Hm.out).mono ?_
    rintro e w1 ⟨rfl, hb1⟩
    have Hr1 := Lib.hid (Hr.out.below hb1)
    go_wp2_with fail
    refine (refSum_any _ _ _ _ Hr1.out Hm.out).mono ?_
    rintro e w2 ⟨rfl, rfl⟩
    go_wp2_with fail
    refine (crcAdd_any _ Hx.out _ _ _ _ Hr1.out Hm.out).mono ?_
    rintro e w3 ⟨rfl, hb3⟩
    have Hr3 := Lib.hid (Hr1.out.below hb3)
    go_wp2_with fail
    refine (refAdd_any _ Hx.out _ _ _ _ Hr3.out Hm.out).mono ?_
    rintro e w4 ⟨rfl, rfl⟩
    go_wp2_with fail
    refine (crcEntry_any _ _).mono ?_
    rintro e w5 ⟨rfl, rfl⟩
    go_wp2_with fail
    refine (refEntry_any _ (by omega) Hb.out _).mono ?_
    rintro e w6 ⟨rfl, rfl⟩
    go_wp2_with fail
    refine (known02_any _).mono ?_
    rintro e w7 ⟨rfl, hb7⟩
    go_wp2_with fail
    go_ret
    exact ⟨rfl, below_fresh (below_fresh hb1 hb3) hb7⟩

end Go.Proofs.Ytlfclpdcingpnaa
