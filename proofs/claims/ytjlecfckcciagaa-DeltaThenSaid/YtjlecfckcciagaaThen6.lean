/- The law: one, and then another one. -/
import Derived.Test.YtjlecfckcciagaaThen2
import Derived.Test.YtjlecfckcciagaaThen5
import Derived.Test.YtjlecfckcciagaaLaw42B
open Go.RowKit
namespace Go.Proofs.Ytjlecfckcciagaa

theorem insR_len (p : Int × ByteArray) : ∀ l : List (Int × ByteArray), (insR p l).length = l.length + 1
  | [] => rfl
  | q :: l => by
    rw [insR]
    split
    · rw [List.length_cons, insR_len p l, List.length_cons]
    · simp
theorem putR_len (l : List (Int × ByteArray)) (p : Int × ByteArray) : (putR l p).length ≤ l.length + 1 := by
  unfold putR
  split
  · omega
  · rw [insR_len]; exact Nat.le_refl _
theorem fold_len : ∀ (m l : List (Int × ByteArray)), (m.foldl putR l).length ≤ l.length + m.length
  | [], l => by simp
  | p :: m, l => by
    have h1 := fold_len m (putR l p)
    have h2 := putR_len l p
    rw [List.foldl_cons, List.length_cons]
    omega
theorem then_len (a b : List (Int × ByteArray)) : (thenL a b).length ≤ a.length + b.length := by
  have := fold_len (b ++ a) []
  rw [List.length_append, List.length_nil] at this
  unfold thenL
  omega
theorem kw_of {l : List (Int × ByteArray)} (h : lightB l = true) (hw : ∀ p ∈ l, (Lit.int .i64 p.1).wf = true) : KW l := fun p hp => ⟨hw p hp, by
  unfold lightB at h
  rw [Bool.and_eq_true, List.all_eq_true] at h
  have := of_decide_eq_true (h.2 p hp)
  omega⟩

set_option maxHeartbeats 4000000 in
set_option maxRecDepth 100000 in
theorem deltaThen_any (A : Option Addr) (m : List ByteArray) (c : Nat) (B : Option Addr) (a : List (Int × ByteArray)) (d : Nat) (E : Option Addr) (b : List (Int × ByteArray)) (ec : Nat) (w : World)
    (hr : Reads w 1 A m.length (sts m)) (hc : A = none → m = [] ∧ c = 0) (hs : Reads w 2 B a.length (pks a)) (ht : Reads w 2 E b.length (pks b)) (wa : ∀ p ∈ a, (Lit.int .i64 p.1).wf = true) (wb : ∀ p ∈ b, (Lit.int .i64 p.1).wf = true) :
    Calls Try.prog 3 #[.slice A m.length c, .slice B a.length d, .slice E b.length ec] w fun e w' => e = .returned (.bool true) ∧ Below w.heap.size w w' := by
  have HF1 := Lib.hid (few42_any w A m c hr)
  have HF2 := Lib.hid (light42_any w B a d hs)
  have HF3 := Lib.hid (light42_any w E b ec ht)
  have Hr := Lib.hid hr
  have Hs := Lib.hid hs
  have Ht := Lib.hid ht
  have Hc := Lib.hid hc
  have Wa := Lib.hid wa
  have Wb := Lib.hid wb
  clear hr hs ht hc wa wb
  cases h1 : fewB m with
  | false =>
    rw [h1] at HF1
    clear h1
    go_enter Try.func3, Try.ntmps3
    go_wp2_with fail
    refine HF1.out.mono ?_
    rintro e w1 ⟨rfl, rfl⟩
    go_wp2_with fail
    refine (known42_any _).mono ?_
    rintro e wk ⟨rfl, hb⟩
    go_wp2_with fail
    go_ret
    exact ⟨rfl, hb⟩
  | true =>
    rw [h1] at HF1
    have hm := fewB_len h1
    clear h1
    cases h2 : lightB a with
    | false =>
      rw [h2] at HF2
      clear h2
      go_enter Try.func3, Try.ntmps3
      go_wp2_with fail
      refine HF1.out.mono ?_
      rintro e w1 ⟨rfl, rfl⟩
      go_wp2_with fail
      refine HF2.out.mono ?_
      rintro e w1 ⟨rfl, rfl⟩
      go_wp2_with fail
      refine (known42_any _).mono ?_
      rintro e wk ⟨rfl, hb⟩
      go_wp2_with fail
      go_ret
      exact ⟨rfl, hb⟩
    | true =>
      have hal := lightB_len h2
      have Ka := Lib.hid (kw_of h2 Wa.out)
      rw [h2] at HF2
      clear h2
      cases h3 : lightB b with
      | false =>
        rw [h3] at HF3
        clear h3
        go_enter Try.func3, Try.ntmps3
        go_wp2_with fail
        refine HF1.out.mono ?_
        rintro e w1 ⟨rfl, rfl⟩
        go_wp2_with fail
        refine HF2.out.mono ?_
        rintro e w1 ⟨rfl, rfl⟩
        go_wp2_with fail
        refine HF3.out.mono ?_
        rintro e w1 ⟨rfl, rfl⟩
        go_wp2_with fail
        refine (known42_any _).mono ?_
        rintro e wk ⟨rfl, hb⟩
        go_wp2_with fail
        go_ret
        exact ⟨rfl, hb⟩
      | true =>
        have hbl := lightB_len h3
        have Kb := Lib.hid (kw_of h3 Wb.out)
        have HTl := Lib.hid (then_len a b)
        have HLx := Lib.hid (applyR_len m a)
        rw [h3] at HF3
        clear h3
        have HN := Lib.hid (then_any w B E a b d ec Hs.out Ht.out (by omega) (by omega) Ka.out Kb.out)
        go_enter Try.func3, Try.ntmps3
        go_wp2_with fail
        refine HF1.out.mono ?_
        rintro e w1 ⟨rfl, rfl⟩
        go_wp2_with fail
        refine HF2.out.mono ?_
        rintro e w1 ⟨rfl, rfl⟩
        go_wp2_with fail
        refine HF3.out.mono ?_
        rintro e w1 ⟨rfl, rfl⟩
        go_wp2_with fail
        refine HN.out.mono ?_
        rintro e w1 ⟨A1, c1, rfl, hx⟩
        have HX := Lib.hid hx
        have HN := Lib.hid (refThen_any w1 B E a b d ec (Hs.out.below hx.2.2) (Ht.out.below hx.2.2) (by omega) (by omega))
        clear hx HF1 HF2 HF3
        go_wp2_with fail
        refine HN.out.mono ?_
        rintro e w2 ⟨A2, c2, rfl, hy⟩
        have HX := Lib.hid (HX.out.keep hy.2.2)
        have HP := Lib.hid (puts_any A1 A2 (thenL a b) (thenL a b) c1 c2 w2 HX.out.1.reads hy.1.reads (by have := HTl.out; omega))
        rw [decide_eq_true rfl] at HP
        clear hy HN
        go_wp2_with fail
        refine HP.out.mono ?_
        rintro e w3 ⟨rfl, hb3⟩
        have HX := Lib.hid (HX.out.keep hb3)
        have HN := Lib.hid (apply_any w3 B A m a d c (Hr.out.below HX.out.2.2) Hc.out (by omega) (Hs.out.below HX.out.2.2) (by omega))
        clear hb3 HP
        go_wp2_with fail
        refine HN.out.mono ?_
        rintro e w4 ⟨A4, c4, rfl, hu⟩
        have HX := Lib.hid (HX.out.keep hu.2.2)
        have HU := Lib.hid hu
        have HN := Lib.hid (apply_any w4 E A4 (applyR m a) b ec c4 hu.1.reads hu.none_nil (by have := HLx.out; omega) (Ht.out.below HX.out.2.2) (by omega))
        clear hu
        go_wp2_with fail
        refine HN.out.mono ?_
        rintro e w5 ⟨A5, c5, rfl, hv⟩
        have HX := Lib.hid (HX.out.keep hv.2.2)
        have HV := Lib.hid hv
        clear hv HN HU
        by_cases e1 : mayE m.length a = 0
        · by_cases e2 : mayE (applyR m a).length b = 0
          · obtain ⟨t1, t2⟩ := then_apply e1 e2
            have HB := Lib.hid (apply_any w5 A1 A m (thenL a b) c1 c (Hr.out.below HX.out.2.2) Hc.out (by omega) HX.out.1.reads (by have := HTl.out; omega))
            have HLy := Lib.hid (applyR_len (applyR m a) b)
            rw [t1, t2] at HB
            rw [e1, e2, show ((0 : Nat) : Int) = 0 from rfl]
            clear e1 e2 t1 t2
            go_wp2_with fail
            refine HB.out.mono ?_
            rintro e w6 ⟨A6, c6, rfl, hz⟩
            have HX := Lib.hid (HX.out.keep hz.2.2)
            have HT := Lib.hid (texts_any A6 A5 (applyR (applyR m a) b) (applyR (applyR m a) b) c6 c5 w6 hz.1.reads (HV.out.keep hz.2.2).1.reads (by have := HLx.out; have := HLy.out; omega))
            rw [decide_eq_true rfl] at HT
            rw [show ((0 : Nat) : Int) = 0 from rfl]
            clear hz HB HV
            go_wp2_with fail
            refine HT.out.mono ?_
            rintro e w7 ⟨rfl, hb7⟩
            have HX := Lib.hid (HX.out.keep hb7)
            clear hb7 HT
            go_wp2_with fail
            refine (known42_any _).mono ?_
            rintro e wk ⟨rfl, hb9⟩
            have HX := Lib.hid (HX.out.keep hb9)
            clear hb9
            go_wp2_with fail
            go_ret
            exact ⟨rfl, HX.out.2.2⟩
          · have hb : ((mayE (applyR m a).length b : Int) != 0) = true := by rw [bne_iff_ne]; omega
            rw [e1, show ((0 : Nat) : Int) = 0 from rfl]
            clear e1
            generalize mayE (applyR m a).length b = e2 at *
            go_wp2_with fail
            refine (known42_any _).mono ?_
            rintro e wk ⟨rfl, hb9⟩
            have HX := Lib.hid (HX.out.keep hb9)
            clear hb9
            go_wp2_with fail
            go_ret
            exact ⟨rfl, HX.out.2.2⟩
        · have hb : ((mayE m.length a : Int) != 0) = true := by rw [bne_iff_ne]; omega
          generalize mayE m.length a = e1 at *
          go_wp2_with fail
          refine (known42_any _).mono ?_
          rintro e wk ⟨rfl, hb9⟩
          have HX := Lib.hid (HX.out.keep hb9)
          clear hb9
          go_wp2_with fail
          go_ret
          exact ⟨rfl, HX.out.2.2⟩
end Go.Proofs.Ytjlecfckcciagaa
