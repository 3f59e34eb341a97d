/- The law: what images differ in. -/
import Derived.Test.YtiolfnnkkflaiaaDelMath
import Derived.Test.YtiolfnnkkflaiaaDel8
open Go.RowKit
namespace Go.Proofs.Ytiolfnnkkflaiaa

set_option maxHeartbeats 4000000 in
set_option maxRecDepth 100000 in
theorem deltaMakes_any (A : Option Addr) (l : List ByteArray) (c : Nat) (B : Option Addr) (m : List ByteArray) (d : Nat) (w : World) (hr : Reads w 1 A l.length (sts l)) (hc : A = none → l = [] ∧ c = 0) (hs : Reads w 1 B m.length (sts m)) :
    Calls Try.prog 3 #[.slice A l.length c, .slice B m.length d] w fun e w' => e = .returned (.bool true) ∧ Below w.heap.size w w' := by
  have HF1 := Lib.hid (few42_any w A l c hr)
  have HF2 := Lib.hid (few42_any w B m d hs)
  have Hr := Lib.hid hr
  have Hs := Lib.hid hs
  have Hc := Lib.hid hc
  clear hr hs hc
  cases h1 : fewB l with
  | false =>
    rw [h1] at HF1
    clear h1
    go_enter Try.func3, Try.ntmps3
    go_wp2_with fail
    refine HF1.out.mono ?_
    rintro e w1 ⟨rfl, rfl⟩
    go_wp2_with fail
    refine (known42_any _).mono ?_
    rintro e w1 ⟨rfl, hb⟩
    go_wp2_with fail
    go_ret
    exact ⟨rfl, hb⟩
  | true =>
    cases h2 : fewB m with
    | false =>
      rw [h1] at HF1
      rw [h2] at HF2
      clear h1 h2
      go_enter Try.func3, Try.ntmps3
      go_wp2_with fail
      refine HF1.out.mono ?_
      rintro e w1 ⟨rfl, rfl⟩
      go_wp2_with fail
      refine HF2.out.mono ?_
      rintro e w1 ⟨rfl, rfl⟩
      go_wp2_with fail
      refine (known42_any _).mono ?_
      rintro e w1 ⟨rfl, hb⟩
      go_wp2_with fail
      go_ret
      exact ⟨rfl, hb⟩
    | true =>
      have hl := fewB_len h1
      have hm := fewB_len h2
      rw [h1] at HF1
      rw [h2] at HF2
      clear h1 h2
      have HM := Lib.hid (make_any w A B l m c d Hr.out Hs.out (by omega) (by omega))
      have HL := Lib.hid (show (makeL l m).length ≤ 100000 by
        by_cases h : makeE l m = 0
        · have h3 := (make_law h).1
          have h4 : ∀ (ls bs : List ByteArray) (i : Nat), (diffs i ls bs).length ≤ bs.length := by
            intro ls
            induction ls with
            | nil => intro bs i; cases bs <;> simp [diffs]
            | cons a ls ih =>
              intro bs i
              cases bs with
              | nil => simp [diffs]
              | cons b bs =>
                rw [diffs]
                split
                · have := ih bs (i + 1); simp only [List.length_cons]; omega
                · have := ih bs (i + 1); simp only [List.length_cons]; omega
          have h5 := h4 l m 0
          unfold makeL
          rw [if_pos h]
          omega
        · unfold makeL; rw [if_neg h]; simp)
      go_enter Try.func3, Try.ntmps3
      go_wp2_with fail
      refine HF1.out.mono ?_
      rintro e w1 ⟨rfl, rfl⟩
      go_wp2_with fail
      refine HF2.out.mono ?_
      rintro e w1 ⟨rfl, rfl⟩
      go_wp2_with fail
      refine HM.out.mono ?_
      rintro e w1 ⟨A1, c1, rfl, ho⟩
      have HN := Lib.hid (refMake_any w1 A B l m c d (Hr.out.below ho.2.2) (Hs.out.below ho.2.2))
      have HO := Lib.hid ho
      clear ho HM HF1 HF2
      go_wp2_with fail
      refine HN.out.mono ?_
      rintro e w2 ⟨A2, c2, rfl, ho2⟩
      have HO := Lib.hid (HO.out.keep ho2.2.2)
      have HP := Lib.hid (puts_any A1 A2 (makeL l m) (makeL l m) c1 c2 w2 HO.out.1.reads ho2.1.reads HL.out)
      rw [decide_eq_true rfl] at HP
      clear ho2 HN
      go_wp2_with fail
      refine HP.out.mono ?_
      rintro e w3 ⟨rfl, hb3⟩
      have HO := Lib.hid (HO.out.keep hb3)
      clear hb3 HP
      by_cases h0 : makeE l m = 0
      · obtain ⟨k1, k2, k3⟩ := make_law h0
        have HA := Lib.hid (apply_any w3 A1 A l (makeL l m) c1 c (Hr.out.below HO.out.2.2) Hc.out (by omega) HO.out.1.reads HL.out)
        rw [k2, k3] at HA
        have K1 := Lib.hid k1
        rw [h0, show ((0 : Nat) : Int) = 0 from rfl]
        clear h0 k1 k2 k3
        go_wp2_with fail
        refine HA.out.mono ?_
        rintro e w4 ⟨A4, c4, rfl, h4⟩
        have HO := Lib.hid (HO.out.keep h4.2.2)
        have HT := Lib.hid (texts_any A4 B m m c4 d w4 h4.1.reads (Hs.out.below HO.out.2.2) (by omega))
        rw [decide_eq_true rfl] at HT
        clear h4 HA
        rw [show ((0 : Nat) : Int) = 0 from rfl]
        go_wp2_with fail
        refine HT.out.mono ?_
        rintro e w5 ⟨rfl, hb5⟩
        have HO := Lib.hid (HO.out.keep hb5)
        have HR := Lib.hid (delRight_any w5 A1 (makeL l m) c1 HO.out.1.reads HL.out)
        rw [K1.out] at HR
        clear hb5 HT
        go_wp2_with fail
        refine HR.out.mono ?_
        rintro e w6 ⟨rfl, hb6⟩
        have HO := Lib.hid (HO.out.keep hb6)
        clear hb6 HR
        go_wp2_with fail
        refine (known42_any _).mono ?_
        rintro e w7 ⟨rfl, hb7⟩
        have HO := Lib.hid (HO.out.keep hb7)
        clear hb7
        go_wp2_with fail
        go_ret
        exact ⟨rfl, HO.out.2.2⟩
      · have hb : ((makeE l m : Int) != 0) = true := by rw [bne_iff_ne]; omega
        generalize makeE l m = e1 at *
        clear h0
        go_wp2_with fail
        refine (known42_any _).mono ?_
        rintro e w7 ⟨rfl, hb7⟩
        have HO := Lib.hid (HO.out.keep hb7)
        clear hb7
        go_wp2_with fail
        go_ret
        exact ⟨rfl, HO.out.2.2⟩
end Go.Proofs.Ytiolfnnkkflaiaa
