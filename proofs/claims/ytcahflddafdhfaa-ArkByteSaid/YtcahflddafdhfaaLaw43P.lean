/- The law: images as bytes. -/
import Derived.Test.YtcahflddafdhfaaLaw43K
open Go.RowKit
namespace Go.Proofs.Ytcahflddafdhfaa

theorem packL_len2 {l : List ByteArray} (h : packE l = 0) : (packL l).length ≤ 10000 := by
  obtain ⟨h1, h2⟩ := pack_parts h
  have h3 := runBytes_length (runsOf l) (fun x hx => Nat.le_of_eq (oddB_no h2 _ (runsOf_mem l x hx).1))
  have h4 := runsOf_length l
  rw [packL_ok h]
  unfold arkBody
  rw [List.length_append, List.length_append, List.length_append, be_length, be_length]
  show 4 + 2 + _ + 4 ≤ _
  omega
set_option maxHeartbeats 4000000 in
set_option maxRecDepth 100000 in
theorem arkPacks_law (A : Option Addr) (l : List ByteArray) (c : Nat) (w : World) (hr : Reads w 1 A l.length (sts l)) (hc : l.length ≤ c) :
    Calls Try.prog 3 #[.slice A l.length c] w fun e w' => e = .returned (.bool true) ∧ Below w.heap.size w w' := by
  have HF := Lib.hid (few_any w A l c hr)
  have Hr := Lib.hid hr
  have Hc := Lib.hid hc
  clear hr hc
  cases h1 : fewB l with
  | false =>
    rw [h1] at HF
    clear h1
    go_enter Try.func3, Try.ntmps3
    go_wp2_with fail
    refine HF.out.mono ?_
    rintro e w1 ⟨rfl, rfl⟩
    go_wp2_with fail
    refine (known_any _).mono ?_
    rintro e w1 ⟨rfl, hb⟩
    go_wp2_with fail
    go_ret
    exact ⟨rfl, hb⟩
  | true =>
    have Hl := Lib.hid (fewB_len h1)
    rw [h1] at HF
    clear h1
    have HP := Lib.hid (fun w h => arkPack_any A l c w h Hc.out (by have := Hl.out; omega))
    have HN := Lib.hid (fun w h => refArkPack_any A l c w h (by have := Hl.out; omega))
    have HC1 := Lib.hid (fun w h => arkCount_any A l c w h Hc.out (by have := Hl.out; omega))
    have HC2 := Lib.hid (fun w h => refCount_any A l c w h (by have := Hl.out; omega))
    obtain ⟨pe, hpe⟩ : ∃ pe, packE l = pe := ⟨_, rfl⟩
    obtain ⟨P, hP⟩ : ∃ P, packL l = P := ⟨_, rfl⟩
    generalize (runsOf l).length = nr at HC1 HC2
    rw [hpe, hP] at HP
    rw [hpe, hP] at HN
    have HPE := Lib.hid hpe
    have HPP := Lib.hid hP
    clear hpe hP
    go_enter Try.func3, Try.ntmps3
    go_wp2_with fail
    refine HF.out.mono ?_
    rintro e w1 ⟨rfl, rfl⟩
    go_wp2_with fail
    refine (HP.out w Hr.out).mono ?_
    rintro e w1 ⟨A1, c1, rfl, ho⟩
    have HO := Lib.hid ho
    clear ho HP HF
    go_wp2_with fail
    refine (HN.out w1 (Hr.out.below HO.out.2.2)).mono ?_
    rintro e w2 ⟨s, rfl, hs, hb⟩
    have HO := Lib.hid (HO.out.keep hb)
    have hse : s = ⟨P.toArray⟩ := bl_inj (by rw [hs, bl_mk])
    subst hse
    have hcv := run_string_of_bytes c1 HO.out.1.reads
    have hss : ((⟨P.toArray⟩ : ByteArray).toList == (⟨P.toArray⟩ : ByteArray).toList) = true := beq_self_eq_true _
    generalize (⟨P.toArray⟩ : ByteArray) = s at hcv hss ⊢
    have hee : ((pe : Int) == (pe : Int)) = true := beq_self_eq_true _
    have hnn : ((nr : Int) == (nr : Int)) = true := beq_self_eq_true _
    clear hs hb HN
    go_wp2_with fail
    refine (HC1.out w2 (Hr.out.below HO.out.2.2)).mono ?_
    rintro e w3 ⟨rfl, hb⟩
    have HO := Lib.hid (HO.out.keep hb)
    clear hb HC1 hcv hss hee
    go_wp2_with fail
    refine (HC2.out w3 (Hr.out.below HO.out.2.2)).mono ?_
    rintro e w4 ⟨rfl, hb⟩
    have HO := Lib.hid (HO.out.keep hb)
    clear hb HC2
    cases hp0 : ((pe : Int) == 0) with
    | false =>
      have hp1 : ((pe : Int) != 0) = true := by rw [bne, hp0]; rfl
      go_wp2_with fail
      refine (known_any _).mono ?_
      rintro e w5 ⟨rfl, hb⟩
      have HO := Lib.hid (HO.out.keep hb)
      clear hb
      go_wp2_with fail
      go_ret
      exact ⟨rfl, HO.out.2.2⟩
    | true =>
      have hp1 : ((pe : Int) != 0) = false := by rw [bne, hp0]; rfl
      have hk0 : packE l = 0 := by rw [HPE.out]; have := eq_of_beq hp0; omega
      have HU := Lib.hid (arkUnpack_any A1 P c1 w4 HO.out.1.reads (brow_cap HO.out.1) (by rw [← HPP.out]; exact packL_len2 hk0))
      rw [← HPP.out, (unE_pack hk0).1, (unE_pack hk0).2, HPP.out] at HU
      clear hk0
      go_wp2_with fail
      refine HU.out.mono ?_
      rintro e w5 ⟨A5, c5, rfl, h5⟩
      have HO := Lib.hid (HO.out.keep h5.2.2)
      have HT := Lib.hid (texts12_any A5 A l l c5 c w5 h5.1.reads (Hr.out.below HO.out.2.2) (by have := Hl.out; omega))
      rw [decide_eq_true rfl] at HT
      clear h5 HU
      go_wp2_with fail
      refine HT.out.mono ?_
      rintro e w6 ⟨rfl, hb⟩
      have HO := Lib.hid (HO.out.keep hb)
      clear hb HT
      go_wp2_with fail
      refine (known_any _).mono ?_
      rintro e w7 ⟨rfl, hb⟩
      have HO := Lib.hid (HO.out.keep hb)
      clear hb
      go_wp2_with fail
      go_ret
      exact ⟨rfl, HO.out.2.2⟩
end Go.Proofs.Ytcahflddafdhfaa
