/- The law: an image's bytes of which one is another one. -/
import Derived.Test.YtcahflddafdhfaaLaw43P
open Go.RowKit
namespace Go.Proofs.Ytcahflddafdhfaa
set_option maxHeartbeats 4000000 in
set_option maxRecDepth 100000 in
theorem arkByte_law (A : Option Addr) (ls : List ByteArray) (c : Nat) (k : Int) (b : UInt8) (w : World) (hr : Reads w 1 A ls.length (sts ls)) (hc : ls.length ≤ c) :
    Calls Try.prog 5 #[.slice A ls.length c, .int .i64 k, .int .u8 (b.toNat : Int)] w fun e w' => e = .returned (.bool true) ∧ Below w.heap.size w w' := by
  have HF := Lib.hid (few_any w A ls c hr)
  have Hr := Lib.hid hr
  have Hc := Lib.hid hc
  clear hr hc
  cases h1 : fewB ls with
  | false =>
    rw [h1] at HF
    clear h1
    go_enter Try.func5, Try.ntmps5
    go_wp2_with fail
    refine HF.out.mono ?_
    rintro e w1 ⟨rfl, rfl⟩
    go_wp2_with fail
    refine (known_any _).mono ?_
    rintro e w1 ⟨rfl, hb⟩
    go_wp2_with fail
    go_ret
    exact ⟨rfl, hb⟩
  | true =>
    have Hl := Lib.hid (fewB_len h1)
    rw [h1] at HF
    clear h1
    have HP := Lib.hid (arkPack_any A ls c w Hr.out Hc.out (by have := Hl.out; omega))
    have HLn := Lib.hid (fun (h : packE ls = 0) => packL_len2 h)
    obtain ⟨pe, hpe⟩ : ∃ pe, packE ls = pe := ⟨_, rfl⟩
    obtain ⟨l, hl⟩ : ∃ l, packL ls = l := ⟨_, rfl⟩
    rw [hpe, hl] at HP
    have HSt := Lib.hid (fun (hz : pe = 0) (k : Nat) (hk : k < l.length) (b : UInt8) (hb : l[k] ≠ b) => (show unE (l.set k b) = 9 from by
      subst hl
      exact unE_set (hpe.trans hz) hk b hb))
    rw [hpe, hl] at HLn
    clear hpe hl
    go_enter Try.func5, Try.ntmps5
    go_wp2_with fail
    refine HF.out.mono ?_
    rintro e w1 ⟨rfl, rfl⟩
    go_wp2_with fail
    refine HP.out.mono ?_
    rintro e w1 ⟨A1, c1, rfl, hO⟩
    have HO := Lib.hid hO
    have HB := Lib.hid hO.2.2
    clear hO HP HF
    cases hp0 : ((pe : Int) == 0) with
    | false =>
      have hp1 : ((pe : Int) != 0) = true := by rw [bne, hp0]; rfl
      go_wp2_with fail
      refine (known_any _).mono ?_
      rintro e w9 ⟨rfl, hb⟩
      have HB := Lib.hid (HB.out.trans (hb.mono HB.out.size))
      clear hb
      go_wp2_with fail
      go_ret
      exact ⟨rfl, HB.out⟩
    | true =>
      have hp1 : ((pe : Int) != 0) = false := by rw [bne, hp0]; rfl
      have hpz : pe = 0 := by have := eq_of_beq hp0; omega
      have HLb := Lib.hid (HLn.out hpz)
      have HSt := Lib.hid (HSt.out hpz)
      clear hpz HLn
      by_cases hk0 : k < 0
      · go_wp2_with fail
        refine (known_any _).mono ?_
        rintro e w9 ⟨rfl, hb⟩
        have HB := Lib.hid (HB.out.trans (hb.mono HB.out.size))
        clear hb
        go_wp2_with fail
        go_ret
        exact ⟨rfl, HB.out⟩
      obtain ⟨k, rfl⟩ := Int.eq_ofNat_of_zero_le (show 0 ≤ k by omega)
      clear hk0
      by_cases hkl : l.length ≤ k
      · go_wp2_with fail
        refine (known_any _).mono ?_
        rintro e w9 ⟨rfl, hb⟩
        have HB := Lib.hid (HB.out.trans (hb.mono HB.out.size))
        clear hb
        go_wp2_with fail
        go_ret
        exact ⟨rfl, HB.out⟩
      have hk : k < l.length := by omega
      clear hkl
      have Hrd := Lib.hid HO.out.1.reads
      obtain ⟨ad, hA1, hv⟩ := byteAt Hrd.out hk
      subst hA1
      by_cases hbe : l[k] = b
      · rw [hbe] at hv
        clear hbe
        have hbb : ((b.toNat : Int) == (b.toNat : Int)) = true := beq_self_eq_true _
        go_wp2_with fail
        clear hv hbb
        refine (known_any _).mono ?_
        rintro e w9 ⟨rfl, hb⟩
        have HB := Lib.hid (HB.out.trans (hb.mono HB.out.size))
        clear hb
        go_wp2_with fail
        go_ret
        exact ⟨rfl, HB.out⟩
      have hne : ((l[k].toNat : Int) == (b.toNat : Int)) = false := by
        rw [beq_eq_false_iff_ne]
        intro h
        exact hbe (UInt8.toNat_inj.1 (by omega))
      have HGs := Lib.hid (HSt.out k hk b hbe)
      have hnl : 0 < l.length := by omega
      clear hbe
      go_wp2_with (at_builtin; refine wpList_append_bytes w1 w1.heap.size rfl (.tmp 42) (.tmp 43) rfl none 0 [] rfl (OwnB.nil _ _) (some ad) c1 l rfl Hrd.out (by simp; have := HLb.out; omega) (Below.refl _ _) (Nat.le_refl _) ?_)
      intro A3 c3 L w5 hL how1 hb1 hB1
      obtain rfl : L = l := by simpa using hL.out
      obtain ⟨g, rfl, hg, hg'⟩ := how1.form hnl
      have hcell := how1.cell hk
      have hfro := how1.frozen k
      have Ho1 := Lib.hid (how1.set k b)
      have hsz := HB.out.size
      have HB := Lib.hid (HB.out.trans ((hb1.setCell (p := ⟨g, k, none⟩) hg (.int .u8 (b.toNat : Int))).mono hsz))
      clear how1 hb1 hL hv hne hsz
      have HG := Lib.hid (arkUnpack_any (some ⟨g, 0, none⟩) (L.set k b) c3 _ Ho1.out.reads Ho1.out.cap (by rw [List.length_set]; have := HLb.out; omega))
      rw [List.length_set, HGs.out] at HG
      go_wp2_with fail
      refine HG.out.mono ?_
      rintro e w6 ⟨A4, c4, rfl, hS⟩
      have HB := Lib.hid (HB.out.trans (hS.2.2.mono HB.out.size))
      clear hS HG
      go_wp2_with fail
      refine (known_any _).mono ?_
      rintro e w9 ⟨rfl, hb⟩
      have HB := Lib.hid (HB.out.trans (hb.mono HB.out.size))
      clear hb
      go_wp2_with fail
      go_ret
      exact ⟨rfl, HB.out⟩
end Go.Proofs.Ytcahflddafdhfaa
