/- The law: written, and taken back. -/
import Derived.Test.YtiolfnnkkflaiaaDelMath
import Derived.Test.YtiolfnnkkflaiaaDel8
open Go.RowKit
namespace Go.Proofs.Ytiolfnnkkflaiaa

theorem applyR_len (m : List ByteArray) (l : List (Int × ByteArray)) : (applyR m l).length ≤ m.length := by
  by_cases h : mayE m.length l = 0
  · rw [applyR_ok h, applyL_length]; omega
  · rw [applyR_no h]; exact Nat.zero_le _
theorem undoR_len (m : List ByteArray) (l : List (Int × ByteArray)) : (undoR m l).length ≤ l.length := by
  by_cases h : mayE m.length l = 0
  · rw [undoR_ok h]; unfold undoL; rw [List.length_map]; omega
  · rw [undoR_no h]; exact Nat.zero_le _
theorem StrOut.none_nil {w w' : World} {A : Option Addr} {c : Nat} {l : List ByteArray} (h : StrOut w w' A c l) : A = none → l = [] ∧ c = 0 := by
  rintro rfl
  rcases h.1.2 with ⟨h2, h3⟩ | ⟨g, cap, cur, hv, _⟩
  · exact ⟨List.eq_nil_of_length_eq_zero h3, by injection h2⟩
  · cases hv

set_option maxHeartbeats 4000000 in
set_option maxRecDepth 100000 in
theorem deltaApplies_any (A : Option Addr) (m : List ByteArray) (c : Nat) (B : Option Addr) (l : List (Int × ByteArray)) (d : Nat) (w : World) (hr : Reads w 1 A m.length (sts m)) (hc : A = none → m = [] ∧ c = 0) (hs : Reads w 2 B l.length (pks l)) :
    Calls Try.prog 4 #[.slice A m.length c, .slice B l.length d] w fun e w' => e = .returned (.bool true) ∧ Below w.heap.size w w' := by
  have HF1 := Lib.hid (few42_any w A m c hr)
  have HF2 := Lib.hid (light42_any w B l d hs)
  have Hr := Lib.hid hr
  have Hs := Lib.hid hs
  have Hc := Lib.hid hc
  clear hr hs hc
  cases h1 : fewB m with
  | false =>
    rw [h1] at HF1
    clear h1
    go_enter Try.func4, Try.ntmps4
    go_wp2_with fail
    refine HF1.out.mono ?_
    rintro e w1 ⟨rfl, rfl⟩
    go_wp2_with fail
    refine (known42_any _).mono ?_
    rintro e w1 ⟨rfl, hb⟩
    go_wp2_with fail
    go_ret
    exact ⟨rfl, hb⟩
  | true =>
    cases h2 : lightB l with
    | false =>
      rw [h1] at HF1
      rw [h2] at HF2
      clear h1 h2
      go_enter Try.func4, Try.ntmps4
      go_wp2_with fail
      refine HF1.out.mono ?_
      rintro e w1 ⟨rfl, rfl⟩
      go_wp2_with fail
      refine HF2.out.mono ?_
      rintro e w1 ⟨rfl, rfl⟩
      go_wp2_with fail
      refine (known42_any _).mono ?_
      rintro e w1 ⟨rfl, hb⟩
      go_wp2_with fail
      go_ret
      exact ⟨rfl, hb⟩
    | true =>
      have hm := fewB_len h1
      have hl := lightB_len h2
      rw [h1] at HF1
      rw [h2] at HF2
      clear h1 h2
      have hLx := applyR_len m l
      have hLu := undoR_len m l
      have HA := Lib.hid (apply_any w B A m l d c Hr.out Hc.out (by omega) Hs.out (by omega))
      go_enter Try.func4, Try.ntmps4
      go_wp2_with fail
      refine HF1.out.mono ?_
      rintro e w1 ⟨rfl, rfl⟩
      go_wp2_with fail
      refine HF2.out.mono ?_
      rintro e w1 ⟨rfl, rfl⟩
      go_wp2_with fail
      refine HA.out.mono ?_
      rintro e w1 ⟨A1, c1, rfl, hx⟩
      have HX := Lib.hid hx
      have HN := Lib.hid (refApply_any w1 B A m l d c (Hr.out.below hx.2.2) (by omega) (Hs.out.below hx.2.2) (by omega))
      clear hx HA HF1 HF2
      go_wp2_with fail
      refine HN.out.mono ?_
      rintro e w2 ⟨A2, c2, rfl, hy⟩
      have HX := Lib.hid (HX.out.keep hy.2.2)
      have HY := Lib.hid hy
      have HN := Lib.hid (undo_any w2 B A m l d c (Hr.out.below HX.out.2.2) (by omega) (Hs.out.below HX.out.2.2) (by omega))
      clear hy
      go_wp2_with fail
      refine HN.out.mono ?_
      rintro e w3 ⟨A3, c3, rfl, hu⟩
      have HX := Lib.hid (HX.out.keep hu.2.2)
      have HY := Lib.hid (HY.out.keep hu.2.2)
      have HU := Lib.hid hu
      have HN := Lib.hid (refUndo_any w3 B A m l d c (Hr.out.below HX.out.2.2) (by omega) (Hs.out.below HX.out.2.2) (by omega))
      clear hu
      go_wp2_with fail
      refine HN.out.mono ?_
      rintro e w4 ⟨A4, c4, rfl, hv⟩
      have HX := Lib.hid (HX.out.keep hv.2.2)
      have HY := Lib.hid (HY.out.keep hv.2.2)
      have HU := Lib.hid (HU.out.keep hv.2.2)
      have HT := Lib.hid (texts_any A1 A2 (applyR m l) (applyR m l) c1 c2 w4 HX.out.1.reads HY.out.1.reads (by omega))
      have HV := Lib.hid hv.1
      rw [decide_eq_true rfl] at HT
      clear hv HN
      go_wp2_with fail
      refine HT.out.mono ?_
      rintro e w5 ⟨rfl, hb5⟩
      have HX := Lib.hid (HX.out.keep hb5)
      have HU := Lib.hid (HU.out.keep hb5)
      have HP := Lib.hid (puts_any A3 A4 (undoR m l) (undoR m l) c3 c4 w5 HU.out.1.reads (HV.out.below hb5).reads (by omega))
      rw [decide_eq_true rfl] at HP
      clear hb5 HT HY HV
      go_wp2_with fail
      refine HP.out.mono ?_
      rintro e w6 ⟨rfl, hb6⟩
      have HX := Lib.hid (HX.out.keep hb6)
      have HU := Lib.hid (HU.out.keep hb6)
      have HR1 := Lib.hid (delRight_any w6 B l d (Hs.out.below HX.out.2.2) (by omega))
      clear hb6 HP
      go_wp2_with fail
      refine HR1.out.mono ?_
      rintro e w7 ⟨rfl, hb7⟩
      have HX := Lib.hid (HX.out.keep hb7)
      have HU := Lib.hid (HU.out.keep hb7)
      have HR2 := Lib.hid (refRight42_any w7 B l d (Hs.out.below HX.out.2.2) (by omega))
      clear hb7 HR1
      go_wp2_with fail
      refine HR2.out.mono ?_
      rintro e w8 ⟨rfl, hb8⟩
      have HX := Lib.hid (HX.out.keep hb8)
      have HU := Lib.hid (HU.out.keep hb8)
      clear hb8 HR2
      by_cases h0 : mayE m.length l = 0
      · have H0 := Lib.hid h0
        rw [h0, show ((0 : Nat) : Int) = 0 from rfl]
        clear h0
        go_wp2_with fail
        go_loopw [13] (fun i wr => ∃ k : Nat, k ≤ m.length ∧ i = .int .i64 k ∧ Hid (∀ j (hj : j < m.length), j < k → rightS m[j] = true) ∧ Hid (StrOut w wr A1 c1 (applyR m l)) ∧ Hid (URow wr A3 c3 (undoR m l))) (fun i _ => m.length - (intOf i).toNat)
        case atStart => exact ⟨0, Nat.zero_le _, rfl, Lib.hid (fun j _ hj => by omega), HX, Lib.hid HU.out.1⟩
        case round =>
          clear HX HU
          obtain ⟨k, hk, rfl, HJ, HX, HU⟩ := hrel
          by_cases hlt : k < m.length
          · obtain ⟨ad, rfl, d0⟩ := str_cell (Hr.out.below HX.out.2.2) hlt
            have HS := Lib.hid (refSecRight_any m[k] wr)
            cases h3 : rightS m[k] with
            | false =>
              rw [h3] at HS
              generalize m[k] = s at d0 HS
              clear h3
              go_wp2_with fail
              refine HS.out.mono ?_
              rintro e w9 ⟨rfl, rfl⟩
              go_wp2_with fail
              refine (known42_any _).mono ?_
              rintro e w9 ⟨rfl, hb⟩
              have HX := Lib.hid (HX.out.keep hb)
              clear hb d0
              go_wp2_with fail
              go_ret
              exact ⟨rfl, HX.out.2.2⟩
            | true =>
              have HJ2 := Lib.hid (show ∀ j (hj : j < m.length), j < k + 1 → rightS m[j] = true from fun j hj hjk => by
                by_cases h : j = k
                · subst h; exact h3
                · exact HJ.out j hj (by omega))
              rw [h3] at HS
              generalize m[k] = s at d0 HS
              clear h3
              go_wp2_with fail
              refine HS.out.mono ?_
              rintro e w9 ⟨rfl, rfl⟩
              go_wp2_with fail
              case roundEnd =>
                exact ⟨⟨k + 1, by omega, by push_cast; rfl, HJ2, HX, HU⟩, by simp only [intOf]; omega⟩
          · obtain rfl : k = m.length := by omega
            obtain ⟨k1, k2⟩ := undo_law H0.out (fun s hs => by
              obtain ⟨j, hj, rfl⟩ := List.mem_iff_getElem.1 hs
              exact HJ.out j hj hj)
            have HB := Lib.hid (apply_any wr A3 A1 (applyR m l) (undoR m l) c3 c1 HX.out.1.reads HX.out.none_nil (by omega) HU.out.reads (by omega))
            rw [k1, k2] at HB
            clear k1 k2 HU
            go_wp2_with fail
            refine HB.out.mono ?_
            rintro e w9 ⟨A9, c9, rfl, h9⟩
            have HX := Lib.hid (HX.out.keep h9.2.2)
            have HT := Lib.hid (texts_any A9 A m m c9 c w9 h9.1.reads (Hr.out.below HX.out.2.2) (by omega))
            rw [decide_eq_true rfl] at HT
            clear h9 HB
            rw [show ((0 : Nat) : Int) = 0 from rfl]
            go_wp2_with fail
            refine HT.out.mono ?_
            rintro e w10 ⟨rfl, hb10⟩
            have HX := Lib.hid (HX.out.keep hb10)
            clear hb10 HT
            go_wp2_with fail
            refine (known42_any _).mono ?_
            rintro e w11 ⟨rfl, hb⟩
            have HX := Lib.hid (HX.out.keep hb)
            clear hb
            go_wp2_with fail
            go_ret
            exact ⟨rfl, HX.out.2.2⟩
      · have hb : ((mayE m.length l : Int) != 0) = true := by rw [bne_iff_ne]; omega
        generalize mayE m.length l = e1 at *
        clear h0
        go_wp2_with fail
        refine (known42_any _).mono ?_
        rintro e w9 ⟨rfl, hb9⟩
        have HX := Lib.hid (HX.out.keep hb9)
        clear hb9
        go_wp2_with fail
        go_ret
        exact ⟨rfl, HX.out.2.2⟩
end Go.Proofs.Ytiolfnnkkflaiaa
