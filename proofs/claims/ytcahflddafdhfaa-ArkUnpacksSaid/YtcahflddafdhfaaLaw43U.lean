/- The law: bytes as an image. -/
import Derived.Test.YtcahflddafdhfaaLaw43K
open Go.RowKit
namespace Go.Proofs.Ytcahflddafdhfaa
set_option maxHeartbeats 4000000 in
set_option maxRecDepth 100000 in
theorem arkUnpacks_law (A : Option Addr) (l : List UInt8) (c : Nat) (w : World) (hr : Reads w 1 A l.length (bv l)) (hc : l.length ≤ c) :
    Calls Try.prog 4 #[.slice A l.length c] w fun e w' => e = .returned (.bool true) ∧ Below w.heap.size w w' := by
  have Hr := Lib.hid hr
  have Hc := Lib.hid hc
  clear hr hc
  by_cases h1 : 3000 < l.length
  · go_enter Try.func4, Try.ntmps4
    go_wp2_with fail
    refine (known_any _).mono ?_
    rintro e w1 ⟨rfl, hb⟩
    go_wp2_with fail
    go_ret
    exact ⟨rfl, hb⟩
  have HU := Lib.hid (fun w h => arkUnpack_any A l c w h Hc.out (by omega))
  have HV := Lib.hid (fun w h => refArkUnpack_any A l c w h Hc.out (by omega))
  have HXl := Lib.hid (show (unX l).length ≤ 12000 from Nat.le_trans (unX_len l) (by omega))
  have HPk := Lib.hid (fun (h : unE l = 0) => pack_unX h)
  obtain ⟨ue, hue⟩ : ∃ ue, unE l = ue := ⟨_, rfl⟩
  obtain ⟨X, hX⟩ : ∃ X, unX l = X := ⟨_, rfl⟩
  rw [hue, hX] at HU
  rw [hue, hX] at HV
  rw [hue, hX] at HPk
  rw [hX] at HXl
  clear hue hX
  go_enter Try.func4, Try.ntmps4
  go_wp2_with fail
  refine (HU.out w Hr.out).mono ?_
  rintro e w1 ⟨A1, c1, rfl, ho⟩
  have HO := Lib.hid ho
  clear ho HU
  go_wp2_with fail
  refine (HV.out w1 (Hr.out.below HO.out.2.2)).mono ?_
  rintro e w2 ⟨A2, c2, rfl, ho⟩
  have HO := Lib.hid (HO.out.keep ho.2.2)
  have HT := Lib.hid (texts12_any A1 A2 X X c1 c2 w2 HO.out.1.reads ho.1.reads (by have := HXl.out; omega))
  rw [decide_eq_true rfl] at HT
  have hee : ((ue : Int) == (ue : Int)) = true := beq_self_eq_true _
  clear ho HV
  go_wp2_with fail
  refine HT.out.mono ?_
  rintro e w3 ⟨rfl, hb⟩
  have HO := Lib.hid (HO.out.keep hb)
  clear hb HT
  have HP := Lib.hid (arkPack_any A1 X c1 w3 HO.out.1.reads (srow_cap HO.out.1) (by have := HXl.out; omega))
  go_wp2_with fail
  clear hee
  refine HP.out.mono ?_
  rintro e w4 ⟨A4, c4, rfl, h4⟩
  have HO := Lib.hid (HO.out.keep h4.2.2)
  have HR4 := Lib.hid h4.1
  clear h4 HP
  cases hp0 : ((ue : Int) == 0) with
  | false =>
    have hp1 : ((ue : Int) != 0) = true := by rw [bne, hp0]; rfl
    go_wp2_with fail
    refine (known_any _).mono ?_
    rintro e w5 ⟨rfl, hb⟩
    have HO := Lib.hid (HO.out.keep hb)
    clear hb
    go_wp2_with fail
    go_ret
    exact ⟨rfl, HO.out.2.2⟩
  | true =>
    have hp1 : ((ue : Int) != 0) = false := by rw [bne, hp0]; rfl
    obtain ⟨k1, k2⟩ := HPk.out (by have := eq_of_beq hp0; omega)
    rw [k2] at HR4
    rw [k1, k2]
    clear k1 k2
    have hcv := run_string_of_bytes c4 HR4.out.reads
    have hcw := run_string_of_bytes c (Hr.out.below HO.out.2.2)
    have hss : ((⟨l.toArray⟩ : ByteArray).toList == (⟨l.toArray⟩ : ByteArray).toList) = true := beq_self_eq_true _
    generalize (⟨l.toArray⟩ : ByteArray) = s at hcv hcw hss ⊢
    go_wp2_with fail
    refine (known_any _).mono ?_
    rintro e w5 ⟨rfl, hb⟩
    have HO := Lib.hid (HO.out.keep hb)
    clear hb
    go_wp2_with fail
    go_ret
    exact ⟨rfl, HO.out.2.2⟩
end Go.Proofs.Ytcahflddafdhfaa
