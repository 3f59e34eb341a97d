/- The law FrameGets. -/
import Derived.Test.YtcahflddafdhfaaLaw21K
open Go.RowKit
namespace Go.Proofs.Ytcahflddafdhfaa
set_option maxHeartbeats 8000000 in
set_option maxRecDepth 100000 in
theorem frameGets_law (A : Option Addr) (l : List UInt8) (c : Nat) (W : World) (hr : Reads W 1 A l.length (bv l)) (hc : l.length ≤ c) :
    Calls Try.prog 7 #[.slice A l.length c] W fun e w' => e = .returned (.bool true) ∧ Below W.heap.size W w' := by
  have HB := Lib.hid (Below.refl W.heap.size W)
  have Hr := Lib.hid hr
  have Hc := Lib.hid hc
  clear hr hc
  by_cases h1 : l.length ≤ 1000
  rotate_left
  · have h2 : 1000 < l.length := by omega
    go_enter Try.func7, Try.ntmps7
    go_wp2_with fail
    refine (known_any _).mono ?_
    rintro e w9 ⟨rfl, hb⟩
    have HB := Lib.hid (HB.out.trans (hb.mono HB.out.size))
    clear hb
    go_wp2_with fail
    go_ret
    exact ⟨rfl, HB.out⟩
  have h2 : ¬ 1000 < l.length := by omega
  have HG := Lib.hid (frGet_any W A c l Hr.out Hc.out (by omega))
  have HH := Lib.hid (fun w => refFrGet_any w ⟨l.toArray⟩ (by rw [← bl_length, bl_mk]; omega))
  rw [bl_mk] at HH
  have hsm := getX_sm l
  obtain ⟨x, hx⟩ : ∃ x, getX l = x := ⟨_, rfl⟩
  obtain ⟨n, hn⟩ : ∃ n, getE l = n := ⟨_, rfl⟩
  rw [hx, hn] at HG HH
  rw [hx] at hsm
  have HX := Lib.hid hx
  have HN := Lib.hid hn
  have HM := Lib.hid hsm
  unfold Fr.cells at HG HH
  clear hx hn hsm
  go_enter Try.func7, Try.ntmps7
  go_wp2_with fail
  clear h2
  refine HG.out.mono ?_
  rintro e w1 ⟨A1, c1, rfl, hS⟩
  have HS := Lib.hid hS
  have HB := Lib.hid hS.2.2
  clear hS HG
  obtain ⟨hb, hg, _⟩ := alloc1 w1 #[.int .i64 x.k, .int .u64 (x.s : Int), .int .u64 (x.e : Int), .int .u32 (x.q : Int), .int .u32 (x.v : Int), .int .i64 x.n, .int .i64 x.f, .int .i64 x.i, .int .i64 x.c, .string x.d, .slice A1 x.l.length c1] 41
  have HG1 := Lib.hid hg
  have HR1 := Lib.hid ((HS.out.1.below hb).reads)
  have HB := Lib.hid (HB.out.trans (hb.mono HB.out.size))
  have hcv := run_string_of_bytes c (Hr.out.below HB.out)
  go_wp2_with fail
  generalize w1.alloc (.cells #[.int .i64 x.k, .int .u64 (x.s : Int), .int .u64 (x.e : Int), .int .u32 (x.q : Int), .int .u32 (x.v : Int), .int .i64 x.n, .int .i64 x.f, .int .i64 x.i, .int .i64 x.c, .string x.d, .slice A1 x.l.length c1] 41) = w2 at hb hg HG1 HR1 HB hcv ⊢
  generalize w1.heap.size = g1 at hb hg HG1 ⊢
  clear hb hg HS hcv
  refine (HH.out _).mono ?_
  rintro e w3 ⟨A2, c2, rfl, hS⟩
  have HS := Lib.hid hS
  have hb := hS.2.2
  clear hS HH
  have HG1 := Lib.hid ((hb.block _ (Array.getElem?_eq_some_iff.1 HG1.out).1).trans HG1.out)
  have HR1 := Lib.hid (HR1.out.below hb)
  have HB := Lib.hid (HB.out.trans (hb.mono HB.out.size))
  clear hb
  obtain ⟨d0, d1, d2, d3, d4, d5, d6, d7, d8, d9, d10⟩ := cells11 HG1.out
  have hlt3 := (Array.getElem?_eq_some_iff.1 HG1.out).1
  go_wp2_with fail
  clear d0 d1 d2 d3 d4 d5 d6 d7 d8 d9 d10 hlt3
  obtain ⟨hb, hg, _⟩ := alloc1 w3 #[.int .i64 x.k, .int .u64 (x.s : Int), .int .u64 (x.e : Int), .int .u32 (x.q : Int), .int .u32 (x.v : Int), .int .i64 x.n, .int .i64 x.f, .int .i64 x.i, .int .i64 x.c, .string x.d, .slice A2 x.l.length c2] 41
  have HR2 := Lib.hid ((HS.out.1.below hb).reads)
  generalize w3.alloc (.cells #[.int .i64 x.k, .int .u64 (x.s : Int), .int .u64 (x.e : Int), .int .u32 (x.q : Int), .int .u32 (x.v : Int), .int .i64 x.n, .int .i64 x.f, .int .i64 x.i, .int .i64 x.c, .string x.d, .slice A2 x.l.length c2] 41) = w4 at hb hg HR2 ⊢
  have HG1 := Lib.hid ((hb.block _ (Array.getElem?_eq_some_iff.1 HG1.out).1).trans HG1.out)
  have HR1 := Lib.hid (HR1.out.below hb)
  have HB := Lib.hid (HB.out.trans (hb.mono HB.out.size))
  clear hb hg HS
  have HR := Lib.hid (refAlike_any x x A1 A2 c1 c2 w4 HR1.out HR2.out (by have := HM.out.2.2.1; omega))
  rw [(alikeB_iff x x).2 rfl] at HR
  unfold Fr.cells at HR
  refine HR.out.mono ?_
  rintro e w5 ⟨rfl, hb⟩
  clear HR2 HR
  have HG1 := Lib.hid ((hb.block _ (Array.getElem?_eq_some_iff.1 HG1.out).1).trans HG1.out)
  have HR1 := Lib.hid (HR1.out.below hb)
  have HB := Lib.hid (HB.out.trans (hb.mono HB.out.size))
  clear hb
  obtain ⟨d0, d1, d2, d3, d4, d5, d6, d7, d8, d9, d10⟩ := cells11 HG1.out
  have hee : ((n : Int) == (n : Int)) = true := beq_self_eq_true _
  go_wp2_with fail
  clear d0 d1 d2 d3 d4 d5 d6 d7 d8 d9 d10 hee
  have HP := Lib.hid (framePut_any w5 x A1 c1 HR1.out HM.out.2.body (by have := HM.out.2.2.1; omega) HM.out.1)
  cases hn0 : ((n : Int) == 0) with
  | true =>
    have hn1 : ((n : Int) != 0) = false := by rw [bne, hn0]; rfl
    have hpg := put_get (l := l) (by rw [HN.out]; have := eq_of_beq hn0; omega)
    rw [HX.out] at hpg
    rw [hpg.1, hpg.2] at HP
    unfold Fr.cells at HP
    clear hpg
    refine HP.out.mono ?_
    rintro e w6 ⟨A3, c3, rfl, hO⟩
    have hcv1 := run_string_of_bytes c3 hO.1.reads
    have HB := Lib.hid (HB.out.trans (hO.2.2.mono HB.out.size))
    have hcv2 := run_string_of_bytes c (Hr.out.below HB.out)
    have hss : ((⟨l.toArray⟩ : ByteArray).toList == (⟨l.toArray⟩ : ByteArray).toList) = true := beq_self_eq_true _
    clear hO HP HG1 HR1
    go_wp2_with fail
    clear hcv1 hcv2 hss
    refine (known_any _).mono ?_
    rintro e w9 ⟨rfl, hb⟩
    have HB := Lib.hid (HB.out.trans (hb.mono HB.out.size))
    clear hb
    go_wp2_with fail
    go_ret
    exact ⟨rfl, HB.out⟩
  | false =>
    unfold Fr.cells at HP
    refine HP.out.mono ?_
    rintro e w6 ⟨A3, c3, rfl, hO⟩
    have HB := Lib.hid (HB.out.trans (hO.2.2.mono HB.out.size))
    have hn1 : ((n : Int) != 0) = true := by rw [bne, hn0]; rfl
    clear hO HP HG1 HR1
    go_wp2_with fail
    clear hn0 hn1
    refine (known_any _).mono ?_
    rintro e w9 ⟨rfl, hb⟩
    have HB := Lib.hid (HB.out.trans (hb.mono HB.out.size))
    clear hb
    go_wp2_with fail
    go_ret
    exact ⟨rfl, HB.out⟩
end Go.Proofs.Ytcahflddafdhfaa
