/- The law FrameSpoils. -/
import Derived.Test.YtcahflddafdhfaaLaw21K
import Derived.Deep.DeepCutAuto
open Go.RowKit
namespace Go.Proofs.Ytcahflddafdhfaa
set_option maxHeartbeats 8000000 in
set_option maxRecDepth 100000 in
theorem frameSpoils_law (x : Fr) (A : Option Addr) (c : Nat) (k : Int) (b : UInt8) (n : Int) (W : World) (hr : Reads W 1 A x.l.length (sts x.l)) (hok : FrOk x) (hB : (bodyL x).length ≤ 100000000) (hl : x.l.length ≤ 2000000) :
    Calls Try.prog 8 #[.agg (x.cells A c), .int .i64 k, .int .u8 (b.toNat : Int), .int .i64 n] W fun e w' => e = .returned (.bool true) ∧ Below W.heap.size W w' := by
  obtain ⟨hb, hg, _⟩ := alloc1 W (x.cells A c) 41
  have HP := Lib.hid (framePut_any _ x A c (hr.below hb) hB hl hok)
  have HB := Lib.hid hb
  have HX := Lib.hid hg
  have Hok := Lib.hid hok
  unfold Fr.cells at HB HX HP ⊢
  clear hb hg hr hok hB hl
  obtain ⟨d0, d1, d2, d3, d4, d5, d6, d7, d8, d9, d10⟩ := cells11 HX.out
  cases hp : putOk x with
  | false =>
    have hE : putE x = 6 := by unfold putE; rw [hp]; rfl
    rw [hE] at HP
    clear hE hp
    go_enter Try.func8, Try.ntmps8
    go_wp2_with fail
    refine HP.out.mono ?_
    rintro e w1 ⟨A1, c1, rfl, hO⟩
    have HB := Lib.hid (HB.out.trans (hO.2.2.mono HB.out.size))
    clear hO d0 d1 d2 d3 d4 d5 d6 d7 d8 d9 d10
    go_wp2_with fail
    refine (known_any _).mono ?_
    rintro e w9 ⟨rfl, hb⟩
    have HB := Lib.hid (HB.out.trans (hb.mono HB.out.size))
    clear hb
    go_wp2_with fail
    go_ret
    exact ⟨rfl, HB.out⟩
  | true =>
    have hE : putE x = 0 := by unfold putE; rw [hp]; rfl
    rw [hE] at HP
    obtain ⟨l, hl⟩ : ∃ l, putL x = l := ⟨_, rfl⟩
    have HLb := Lib.hid (show l.length ≤ 1000 by rw [← hl, putL_length hp]; have := bodyL_le (put_parts hp).1; omega)
    have HCut := Lib.hid (fun m (h : m < l.length) => (show getE (l.take m) = 7 from by rw [← hl] at h ⊢; exact get_cut Hok.out hp h))
    have HSt := Lib.hid (fun k (h : k < l.length) b (hb : l[k] ≠ b) => (show getE (l.set k b) ≠ 0 from by
      subst hl
      exact get_set Hok.out hp h b hb))
    rw [hl] at HP
    clear hE hp hl
    go_enter Try.func8, Try.ntmps8
    go_wp2_with fail
    refine HP.out.mono ?_
    rintro e w1 ⟨A1, c1, rfl, hO⟩
    have HO := Lib.hid hO
    have HB := Lib.hid (HB.out.trans (hO.2.2.mono HB.out.size))
    clear hO d0 d1 d2 d3 d4 d5 d6 d7 d8 d9 d10 HP
    by_cases hn0 : n < 0
    · have hn1 : ¬ 0 ≤ n := by omega
      go_upto_region 8 with fail
      clear hn0 hn1
      by_cases hk0 : k < 0
      · go_wp2_with fail
        refine (known_any _).mono ?_
        rintro e w9 ⟨rfl, hb⟩
        have HB := Lib.hid (HB.out.trans (hb.mono HB.out.size))
        clear hb
        go_wp2_with fail
        go_ret
        exact ⟨rfl, HB.out⟩
      obtain ⟨k, rfl⟩ := Int.eq_ofNat_of_zero_le (show 0 ≤ k by omega)
      clear hk0
      by_cases hkl : l.length ≤ k
      · go_wp2_with fail
        refine (known_any _).mono ?_
        rintro e w9 ⟨rfl, hb⟩
        have HB := Lib.hid (HB.out.trans (hb.mono HB.out.size))
        clear hb
        go_wp2_with fail
        go_ret
        exact ⟨rfl, HB.out⟩
      have hk : k < l.length := by omega
      clear hkl
      have Hrd := Lib.hid HO.out.1.reads
      obtain ⟨ad, hA1, hv⟩ := byte_cell Hrd.out hk
      subst hA1
      by_cases hbe : l[k] = b
      · rw [hbe] at hv
        clear hbe
        have hbb : ((b.toNat : Int) == (b.toNat : Int)) = true := beq_self_eq_true _
        go_wp2_with fail
        clear hv hbb
        refine (known_any _).mono ?_
        rintro e w9 ⟨rfl, hb⟩
        have HB := Lib.hid (HB.out.trans (hb.mono HB.out.size))
        clear hb
        go_wp2_with fail
        go_ret
        exact ⟨rfl, HB.out⟩
      have hne : ((l[k].toNat : Int) == (b.toNat : Int)) = false := by
        rw [beq_eq_false_iff_ne]
        intro h
        exact hbe (UInt8.toNat_inj.1 (by omega))
      have HGs := Lib.hid (HSt.out k hk b hbe)
      have hnl : 0 < l.length := by omega
      clear hbe
      go_wp2_with (at_builtin; refine wpList_append_bytes w1 w1.heap.size rfl (.tmp 58) (.tmp 59) rfl none 0 [] rfl (OwnB.nil _ _) (some ad) c1 l rfl Hrd.out (by simp; have := HLb.out; omega) (Below.refl _ _) (Nat.le_refl _) ?_)
      intro A3 c3 L w5 hL how1 hb1 hB1
      obtain rfl : L = l := by simpa using hL.out
      obtain ⟨g, rfl, hg, hg'⟩ := how1.form hnl
      have hcell := how1.cell hk
      have hfro := how1.frozen k
      have Ho1 := Lib.hid (how1.set k b)
      have hsz := HB.out.size
      have HB := Lib.hid (HB.out.trans ((hb1.setCell (p := ⟨g, k, none⟩) hg (.int .u8 (b.toNat : Int))).mono hsz))
      clear how1 hb1 hL hv hne hsz
      go_wp2_with fail
      have HG := Lib.hid (frGet_any _ (some ⟨g, 0, none⟩) c3 (L.set k b) Ho1.out.reads Ho1.out.cap (by rw [List.length_set]; have := HLb.out; omega))
      rw [List.length_set] at HG
      unfold Fr.cells at HG
      refine HG.out.mono ?_
      rintro e w6 ⟨A4, c4, rfl, hS⟩
      have HB := Lib.hid (HB.out.trans (hS.2.2.mono HB.out.size))
      have hne : (((getE (L.set k b) : Nat) : Int) == 0) = false := by rw [beq_eq_false_iff_ne]; have := HGs.out; omega
      generalize ((getE (L.set k b) : Nat) : Int) = m at hne ⊢
      have hne2 : (m != 0) = true := by rw [bne, hne]; rfl
      clear hS HG hcell hfro
      go_wp2_with fail
      clear hne hne2
      have HB := Lib.hid (HB.out.trans ((alloc1 w6 #[.int .i64 (getX (L.set k b)).k, .int .u64 ((getX (L.set k b)).s : Int), .int .u64 ((getX (L.set k b)).e : Int), .int .u32 ((getX (L.set k b)).q : Int), .int .u32 ((getX (L.set k b)).v : Int), .int .i64 (getX (L.set k b)).n, .int .i64 (getX (L.set k b)).f, .int .i64 (getX (L.set k b)).i, .int .i64 (getX (L.set k b)).c, .string (getX (L.set k b)).d, .slice A4 (getX (L.set k b)).l.length c4] 41).1.mono HB.out.size))
      generalize w6.alloc _ = w7 at HB ⊢
      refine (known_any _).mono ?_
      rintro e w9 ⟨rfl, hb⟩
      have HB := Lib.hid (HB.out.trans (hb.mono HB.out.size))
      clear hb
      go_wp2_with fail
      go_ret
      exact ⟨rfl, HB.out⟩
    obtain ⟨n, rfl⟩ := Int.eq_ofNat_of_zero_le (show 0 ≤ n by omega)
    clear hn0
    by_cases hnl : l.length ≤ n
    · have hn1 : ¬ n < l.length := by omega
      go_upto_region 8 with fail
      clear hnl hn1
      by_cases hk0 : k < 0
      · go_wp2_with fail
        refine (known_any _).mono ?_
        rintro e w9 ⟨rfl, hb⟩
        have HB := Lib.hid (HB.out.trans (hb.mono HB.out.size))
        clear hb
        go_wp2_with fail
        go_ret
        exact ⟨rfl, HB.out⟩
      obtain ⟨k, rfl⟩ := Int.eq_ofNat_of_zero_le (show 0 ≤ k by omega)
      clear hk0
      by_cases hkl : l.length ≤ k
      · go_wp2_with fail
        refine (known_any _).mono ?_
        rintro e w9 ⟨rfl, hb⟩
        have HB := Lib.hid (HB.out.trans (hb.mono HB.out.size))
        clear hb
        go_wp2_with fail
        go_ret
        exact ⟨rfl, HB.out⟩
      have hk : k < l.length := by omega
      clear hkl
      have Hrd := Lib.hid HO.out.1.reads
      obtain ⟨ad, hA1, hv⟩ := byte_cell Hrd.out hk
      subst hA1
      by_cases hbe : l[k] = b
      · rw [hbe] at hv
        clear hbe
        have hbb : ((b.toNat : Int) == (b.toNat : Int)) = true := beq_self_eq_true _
        go_wp2_with fail
        clear hv hbb
        refine (known_any _).mono ?_
        rintro e w9 ⟨rfl, hb⟩
        have HB := Lib.hid (HB.out.trans (hb.mono HB.out.size))
        clear hb
        go_wp2_with fail
        go_ret
        exact ⟨rfl, HB.out⟩
      have hne : ((l[k].toNat : Int) == (b.toNat : Int)) = false := by
        rw [beq_eq_false_iff_ne]
        intro h
        exact hbe (UInt8.toNat_inj.1 (by omega))
      have HGs := Lib.hid (HSt.out k hk b hbe)
      have hnl : 0 < l.length := by omega
      clear hbe
      go_wp2_with (at_builtin; refine wpList_append_bytes w1 w1.heap.size rfl (.tmp 58) (.tmp 59) rfl none 0 [] rfl (OwnB.nil _ _) (some ad) c1 l rfl Hrd.out (by simp; have := HLb.out; omega) (Below.refl _ _) (Nat.le_refl _) ?_)
      intro A3 c3 L w5 hL how1 hb1 hB1
      obtain rfl : L = l := by simpa using hL.out
      obtain ⟨g, rfl, hg, hg'⟩ := how1.form hnl
      have hcell := how1.cell hk
      have hfro := how1.frozen k
      have Ho1 := Lib.hid (how1.set k b)
      have hsz := HB.out.size
      have HB := Lib.hid (HB.out.trans ((hb1.setCell (p := ⟨g, k, none⟩) hg (.int .u8 (b.toNat : Int))).mono hsz))
      clear how1 hb1 hL hv hne hsz
      go_wp2_with fail
      have HG := Lib.hid (frGet_any _ (some ⟨g, 0, none⟩) c3 (L.set k b) Ho1.out.reads Ho1.out.cap (by rw [List.length_set]; have := HLb.out; omega))
      rw [List.length_set] at HG
      unfold Fr.cells at HG
      refine HG.out.mono ?_
      rintro e w6 ⟨A4, c4, rfl, hS⟩
      have HB := Lib.hid (HB.out.trans (hS.2.2.mono HB.out.size))
      have hne : (((getE (L.set k b) : Nat) : Int) == 0) = false := by rw [beq_eq_false_iff_ne]; have := HGs.out; omega
      generalize ((getE (L.set k b) : Nat) : Int) = m at hne ⊢
      have hne2 : (m != 0) = true := by rw [bne, hne]; rfl
      clear hS HG hcell hfro
      go_wp2_with fail
      clear hne hne2
      have HB := Lib.hid (HB.out.trans ((alloc1 w6 #[.int .i64 (getX (L.set k b)).k, .int .u64 ((getX (L.set k b)).s : Int), .int .u64 ((getX (L.set k b)).e : Int), .int .u32 ((getX (L.set k b)).q : Int), .int .u32 ((getX (L.set k b)).v : Int), .int .i64 (getX (L.set k b)).n, .int .i64 (getX (L.set k b)).f, .int .i64 (getX (L.set k b)).i, .int .i64 (getX (L.set k b)).c, .string (getX (L.set k b)).d, .slice A4 (getX (L.set k b)).l.length c4] 41).1.mono HB.out.size))
      generalize w6.alloc _ = w7 at HB ⊢
      refine (known_any _).mono ?_
      rintro e w9 ⟨rfl, hb⟩
      have HB := Lib.hid (HB.out.trans (hb.mono HB.out.size))
      clear hb
      go_wp2_with fail
      go_ret
      exact ⟨rfl, HB.out⟩
    have hn : n < l.length := by omega
    clear hnl
    obtain ⟨hcut, hrd⟩ := cutB_to A1 c1 l n (by omega) HO.out.1.cap
    have HE7 := Lib.hid (HCut.out n hn)
    have hln : (l.take n).length = n := by rw [List.length_take]; omega
    have HG := Lib.hid (frGet_any w1 A1 c1 (l.take n) (hrd _ HO.out.1.reads) (by rw [hln]; have := HO.out.1.cap; omega) (by rw [hln]; have := HLb.out; omega))
    rw [hln, HE7.out, getX_bad (by rw [HE7.out]; decide)] at HG
    clear hrd hln
    unfold fr0 Fr.cells at HG
    go_wp2_with fail
    clear hcut
    refine HG.out.mono ?_
    rintro e w2 ⟨A4, c4, rfl, hS⟩
    have HO := Lib.hid (HO.out.keep hS.2.2)
    have HB := Lib.hid (HB.out.trans (hS.2.2.mono HB.out.size))
    clear hS HG hn
    go_upto_region 8 with fail
    have hb := (alloc1 w2 #[.int .i64 0, .int .u64 0, .int .u64 0, .int .u32 0, .int .u32 0, .int .i64 0, .int .i64 0, .int .i64 0, .int .i64 0, .string ⟨#[]⟩, .slice A4 0 c4] 41).1
    have HB := Lib.hid (HB.out.trans (hb.mono HB.out.size))
    have HO := Lib.hid (HO.out.keep hb)
    clear hb
    generalize w2.alloc _ = w4 at HB HO ⊢
    by_cases hk0 : k < 0
    · go_wp2_with fail
      refine (known_any _).mono ?_
      rintro e w9 ⟨rfl, hb⟩
      have HB := Lib.hid (HB.out.trans (hb.mono HB.out.size))
      clear hb
      go_wp2_with fail
      go_ret
      exact ⟨rfl, HB.out⟩
    obtain ⟨k, rfl⟩ := Int.eq_ofNat_of_zero_le (show 0 ≤ k by omega)
    clear hk0
    by_cases hkl : l.length ≤ k
    · go_wp2_with fail
      refine (known_any _).mono ?_
      rintro e w9 ⟨rfl, hb⟩
      have HB := Lib.hid (HB.out.trans (hb.mono HB.out.size))
      clear hb
      go_wp2_with fail
      go_ret
      exact ⟨rfl, HB.out⟩
    have hk : k < l.length := by omega
    clear hkl
    have Hrd := Lib.hid HO.out.1.reads
    obtain ⟨ad, hA1, hv⟩ := byte_cell Hrd.out hk
    subst hA1
    by_cases hbe : l[k] = b
    · rw [hbe] at hv
      clear hbe
      have hbb : ((b.toNat : Int) == (b.toNat : Int)) = true := beq_self_eq_true _
      go_wp2_with fail
      clear hv hbb
      refine (known_any _).mono ?_
      rintro e w9 ⟨rfl, hb⟩
      have HB := Lib.hid (HB.out.trans (hb.mono HB.out.size))
      clear hb
      go_wp2_with fail
      go_ret
      exact ⟨rfl, HB.out⟩
    have hne : ((l[k].toNat : Int) == (b.toNat : Int)) = false := by
      rw [beq_eq_false_iff_ne]
      intro h
      exact hbe (UInt8.toNat_inj.1 (by omega))
    have HGs := Lib.hid (HSt.out k hk b hbe)
    have hnl : 0 < l.length := by omega
    clear hbe
    go_wp2_with (at_builtin; refine wpList_append_bytes w4 w4.heap.size rfl (.tmp 58) (.tmp 59) rfl none 0 [] rfl (OwnB.nil _ _) (some ad) c1 l rfl Hrd.out (by simp; have := HLb.out; omega) (Below.refl _ _) (Nat.le_refl _) ?_)
    intro A3 c3 L w5 hL how1 hb1 hB1
    obtain rfl : L = l := by simpa using hL.out
    obtain ⟨g, rfl, hg, hg'⟩ := how1.form hnl
    have hcell := how1.cell hk
    have hfro := how1.frozen k
    have Ho1 := Lib.hid (how1.set k b)
    have hsz := HB.out.size
    have HB := Lib.hid (HB.out.trans ((hb1.setCell (p := ⟨g, k, none⟩) hg (.int .u8 (b.toNat : Int))).mono hsz))
    clear how1 hb1 hL hv hne hsz
    go_wp2_with fail
    have HG := Lib.hid (frGet_any _ (some ⟨g, 0, none⟩) c3 (L.set k b) Ho1.out.reads Ho1.out.cap (by rw [List.length_set]; have := HLb.out; omega))
    rw [List.length_set] at HG
    unfold Fr.cells at HG
    refine HG.out.mono ?_
    rintro e w6 ⟨A4, c4, rfl, hS⟩
    have HB := Lib.hid (HB.out.trans (hS.2.2.mono HB.out.size))
    have hne : (((getE (L.set k b) : Nat) : Int) == 0) = false := by rw [beq_eq_false_iff_ne]; have := HGs.out; omega
    generalize ((getE (L.set k b) : Nat) : Int) = m at hne ⊢
    have hne2 : (m != 0) = true := by rw [bne, hne]; rfl
    clear hS HG hcell hfro
    go_wp2_with fail
    clear hne hne2
    have HB := Lib.hid (HB.out.trans ((alloc1 w6 #[.int .i64 (getX (L.set k b)).k, .int .u64 ((getX (L.set k b)).s : Int), .int .u64 ((getX (L.set k b)).e : Int), .int .u32 ((getX (L.set k b)).q : Int), .int .u32 ((getX (L.set k b)).v : Int), .int .i64 (getX (L.set k b)).n, .int .i64 (getX (L.set k b)).f, .int .i64 (getX (L.set k b)).i, .int .i64 (getX (L.set k b)).c, .string (getX (L.set k b)).d, .slice A4 (getX (L.set k b)).l.length c4] 41).1.mono HB.out.size))
    generalize w6.alloc _ = w7 at HB ⊢
    refine (known_any _).mono ?_
    rintro e w9 ⟨rfl, hb⟩
    have HB := Lib.hid (HB.out.trans (hb.mono HB.out.size))
    clear hb
    go_wp2_with fail
    go_ret
    exact ⟨rfl, HB.out⟩
end Go.Proofs.Ytcahflddafdhfaa
