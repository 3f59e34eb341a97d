/- The walks of CrcParts and CrcByte. -/
import Derived.Test.YtlfclpdcingpnaaLaw02
import Derived.Test.YtlfclpdcingpnaaCrcMath
import Derived.Test.YtlfclpdcingpnaaMem
open Go.RowKit
namespace Go.Proofs.Ytlfclpdcingpnaa

set_option maxRecDepth 100000 in
theorem crcParts_any (A A' : Option Addr) (l l' : List UInt8) (c c' : Nat) (w : World) (hr : Reads w 1 A l.length (bv l)) (hm : l.length ≤ maxLen) (hr' : Reads w 1 A' l'.length (bv l')) (hm' : l'.length ≤ maxLen) :
    Calls Try.prog 4 #[.slice A l.length c, .slice A' l'.length c'] w fun e w' => e = .returned (.bool true) ∧ Below w.heap.size w w' := by
  have Hr := Lib.hid hr
  have Hm := Lib.hid hm
  have Hr' := Lib.hid hr'
  have Hm' := Lib.hid hm'
  clear hr hm hr' hm'
  by_cases hl : 10000 < l.length
  · go_enter Try.func4, Try.ntmps4
    go_wp2_with (go_at_call 10; refine (known02_any _).mono ?_; rintro e w1 ⟨rfl, hb1⟩)
    go_ret
    exact ⟨rfl, hb1⟩
  by_cases hl' : 10000 < l'.length
  · go_enter Try.func4, Try.ntmps4
    go_wp2_with (go_at_call 10; refine (known02_any _).mono ?_; rintro e w1 ⟨rfl, hb1⟩)
    go_ret
    exact ⟨rfl, hb1⟩
  go_enter Try.func4, Try.ntmps4
  go_wp2_with (at_builtin; refine wpList_append_bytes w w.heap.size rfl (.tmp 15) (.tmp 16) rfl none 0 [] rfl (OwnB.nil _ _) A c l rfl Hr.out (by simp; omega) (Below.refl _ _) (Nat.le_refl _) ?_)
  intro A1 c1 L w1 hL how1 hb1 hB1
  obtain rfl : L = l := by simpa using hL.out
  have Ho1 := Lib.hid how1
  have Hb1 := Lib.hid hb1
  clear how1 hb1 hL
  go_wp2_with (at_builtin; refine wpList_append_bytes w w.heap.size rfl (.tmp 18) (.tmp 19) rfl A1 c1 L rfl Ho1.out A' c' l' rfl (Hr'.out.below Hb1.out) (by omega) Hb1.out hB1 ?_)
  intro A2 c2 L2 w2 hL2 how2 hb2 hB2
  have Ho2 := Lib.hid how2
  have Hb2 := Lib.hid hb2
  clear how2 hb2
  go_wp2_with fail
  refine (crcSum_any _ _ _ _ (Hr.out.below Hb2.out) Hm.out).mono ?_
  rintro e w3 ⟨rfl, hb3⟩
  have Hb3 := Lib.hid (Hb2.out.trans (hb3.mono Hb2.out.size))
  have Ho3 := Lib.hid (Ho2.out.below hb3)
  clear hb3
  go_wp2_with fail
  refine (crcAdd_any _ (by have := crcAdd_lt 0 L; unfold U32; omega) _ _ _ _ (Hr'.out.below Hb3.out) Hm'.out).mono ?_
  rintro e w4 ⟨rfl, hb4⟩
  have Hb4 := Lib.hid (Hb3.out.trans (hb4.mono Hb3.out.size))
  have Ho4 := Lib.hid (Ho3.out.below hb4)
  clear hb4
  rw [Int.toNat_natCast, crcAdd_append, ← hL2.out]
  go_wp2_with fail
  refine (crcSum_any _ _ _ _ Ho4.out.reads Ho4.out.max).mono ?_
  rintro e w5 ⟨rfl, hb5⟩
  have Hb5 := Lib.hid (Hb4.out.trans (hb5.mono Hb4.out.size))
  clear hb5
  go_wp2_with fail
  refine (known02_any _).mono ?_
  rintro e w6 ⟨rfl, hb6⟩
  go_wp2_with fail
  go_ret
  exact ⟨rfl, Hb5.out.trans (hb6.mono Hb5.out.size)⟩


set_option maxRecDepth 100000 in
theorem crcByte_law (A : Option Addr) (l : List UInt8) (c : Nat) (k : Int) (b : UInt8) (w : World) (hr : Reads w 1 A l.length (bv l)) (hm : l.length ≤ maxLen) :
    Calls Try.prog 5 #[.slice A l.length c, .int .i64 k, .int .u8 (b.toNat : Int)] w fun e w' => e = .returned (.bool true) ∧ Below w.heap.size w w' := by
  have Hr := Lib.hid hr
  have Hm := Lib.hid hm
  clear hr hm
  by_cases hl : 10000 < l.length
  · go_enter Try.func5, Try.ntmps5
    go_wp2_with (go_at_call 10; refine (known02_any _).mono ?_; rintro e w1 ⟨rfl, hb1⟩)
    go_ret
    exact ⟨rfl, hb1⟩
  by_cases hk0 : k < 0
  · go_enter Try.func5, Try.ntmps5
    go_wp2_with (go_at_call 10; refine (known02_any _).mono ?_; rintro e w1 ⟨rfl, hb1⟩)
    go_ret
    exact ⟨rfl, hb1⟩
  obtain ⟨k, rfl⟩ := Int.eq_ofNat_of_zero_le (show 0 ≤ k by omega)
  clear hk0
  by_cases hkl : l.length ≤ k
  · go_enter Try.func5, Try.ntmps5
    go_wp2_with (go_at_call 10; refine (known02_any _).mono ?_; rintro e w1 ⟨rfl, hb1⟩)
    go_ret
    exact ⟨rfl, hb1⟩
  have hk : k < l.length := by omega
  clear hkl
  obtain ⟨ad, rfl, hv⟩ := Hr.out.byte hk
  by_cases hbe : l[k] = b
  · rw [hbe] at hv
    clear hbe
    go_enter Try.func5, Try.ntmps5
    go_wp2_with (go_at_call 10; refine (known02_any _).mono ?_; rintro e w1 ⟨rfl, hb1⟩)
    go_ret
    exact ⟨rfl, hb1⟩
  have hne : ((l[k].toNat : Int) == (b.toNat : Int)) = false := by
    rw [beq_eq_false_iff_ne]
    intro h
    exact hbe (UInt8.toNat_inj.1 (by omega))
  have Hne := Lib.hid (crc_set_ne l k hk b hbe 0)
  have hnl : 0 < l.length := by omega
  clear hbe
  go_enter Try.func5, Try.ntmps5
  go_wp2_with (at_builtin; refine wpList_append_bytes w w.heap.size rfl (.tmp 30) (.tmp 31) rfl none 0 [] rfl (OwnB.nil _ _) (some ad) c l rfl Hr.out (by simp; omega) (Below.refl _ _) (Nat.le_refl _) ?_)
  intro A1 c1 L w1 hL how1 hb1 hB1
  obtain rfl : L = l := by simpa using hL.out
  obtain ⟨g, rfl, hg, hg'⟩ := how1.form hnl
  have hcell := how1.cell hk
  have hfro := how1.frozen k
  have Ho1 := Lib.hid (how1.set k b)
  have Hb1 := Lib.hid (hb1.setCell (p := ⟨g, k, none⟩) hg (.int .u8 (b.toNat : Int)))
  clear how1 hb1 hL hv
  go_wp2_with fail
  have h1 := crcSum_any (some ⟨g, 0, none⟩) (L.set k b) c1 _ Ho1.out.reads Ho1.out.max
  rw [List.length_set] at h1
  refine h1.mono ?_
  rintro e w2 ⟨rfl, hb2⟩
  have Hb2 := Lib.hid (Hb1.out.trans (hb2.mono Hb1.out.size))
  have hq : (((crcAdd 0 (L.set k b) : Nat) : Int) != ((crcAdd 0 L : Nat) : Int)) = true := by
    rw [bne_iff_ne]
    intro h
    exact Hne.out (by omega)
  clear hb2 hcell hfro h1
  go_wp2_with fail
  refine (crcSum_any _ _ _ _ (Hr.out.below Hb2.out) Hm.out).mono ?_
  rintro e w3 ⟨rfl, hb3⟩
  have Hb3 := Lib.hid (Hb2.out.trans (hb3.mono Hb2.out.size))
  clear hb3
  go_wp2_with fail
  refine (known02_any _).mono ?_
  rintro e w4 ⟨rfl, hb4⟩
  go_wp2_with fail
  go_ret
  exact ⟨rfl, Hb3.out.trans (hb4.mono Hb3.out.size)⟩

end Go.Proofs.Ytlfclpdcingpnaa
