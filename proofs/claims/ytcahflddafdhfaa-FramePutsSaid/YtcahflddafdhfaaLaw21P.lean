/- The law FramePuts. -/
import Derived.Test.YtcahflddafdhfaaLaw21K
open Go.RowKit
namespace Go.Proofs.Ytcahflddafdhfaa
set_option maxHeartbeats 8000000 in
set_option maxRecDepth 100000 in
theorem framePuts_law (x y : Fr) (A : Option Addr) (c : Nat) (B : Option Addr) (d : Nat) (W : World) (hrx : Reads W 1 A x.l.length (sts x.l)) (hry : Reads W 1 B y.l.length (sts y.l)) (hox : FrOk x) :
    Calls Try.prog 6 #[.agg (x.cells A c), .agg (y.cells B d)] W fun e w' => e = .returned (.bool true) ∧ Below W.heap.size W w' := by
  obtain ⟨hb, hgx, hgy, _⟩ := alloc2 W (x.cells A c) 41 (y.cells B d) 41
  have HB := Lib.hid hb
  have HX := Lib.hid hgx
  have HY := Lib.hid hgy
  have Hrx := Lib.hid hrx
  have Hry := Lib.hid hry
  have Hox := Lib.hid hox
  have HS := Lib.hid (fun w => short_any w x A c)
  have HT := Lib.hid (fun w => short_any w y B d)
  unfold Fr.cells at HB HX HY HS HT ⊢
  clear hb hgx hgy hrx hry hox
  obtain ⟨d0, d1, d2, d3, d4, d5, d6, d7, d8, d9, d10⟩ := cells11 HX.out
  obtain ⟨e0, e1, e2, e3, e4, e5, e6, e7, e8, e9, e10⟩ := cells11 HY.out
  go_enter Try.func6, Try.ntmps6
  go_wp2_with fail
  clear d0 d1 d2 d3 d4 d5 d6 d7 d8 d9 d10 e0 e1 e2 e3 e4 e5 e6 e7 e8 e9 e10
  cases hsx : shortB x with
  | false =>
    refine (HS.out _ (Hrx.out.below HB.out)).mono ?_
    rw [hsx]
    rintro e w1 ⟨rfl, hb⟩
    have HX := Lib.hid ((hb.block _ (Array.getElem?_eq_some_iff.1 HX.out).1).trans HX.out)
    have HY := Lib.hid ((hb.block _ (Array.getElem?_eq_some_iff.1 HY.out).1).trans HY.out)
    have HB := Lib.hid (HB.out.trans (hb.mono HB.out.size))
    clear hb
    obtain ⟨d0, d1, d2, d3, d4, d5, d6, d7, d8, d9, d10⟩ := cells11 HX.out
    obtain ⟨e0, e1, e2, e3, e4, e5, e6, e7, e8, e9, e10⟩ := cells11 HY.out
    go_wp2_with fail
    clear d0 d1 d2 d3 d4 d5 d6 d7 d8 d9 d10 e0 e1 e2 e3 e4 e5 e6 e7 e8 e9 e10
    refine (known_any _).mono ?_
    rintro e w9 ⟨rfl, hb⟩
    have HB := Lib.hid (HB.out.trans (hb.mono HB.out.size))
    clear hb
    go_wp2_with fail
    go_ret
    exact ⟨rfl, HB.out⟩
  | true =>
    refine (HS.out _ (Hrx.out.below HB.out)).mono ?_
    rw [hsx]
    rintro e w1 ⟨rfl, hb⟩
    have HX := Lib.hid ((hb.block _ (Array.getElem?_eq_some_iff.1 HX.out).1).trans HX.out)
    have HY := Lib.hid ((hb.block _ (Array.getElem?_eq_some_iff.1 HY.out).1).trans HY.out)
    have HB := Lib.hid (HB.out.trans (hb.mono HB.out.size))
    clear hb
    obtain ⟨d0, d1, d2, d3, d4, d5, d6, d7, d8, d9, d10⟩ := cells11 HX.out
    obtain ⟨e0, e1, e2, e3, e4, e5, e6, e7, e8, e9, e10⟩ := cells11 HY.out
    go_wp2_with fail
    clear d0 d1 d2 d3 d4 d5 d6 d7 d8 d9 d10 e0 e1 e2 e3 e4 e5 e6 e7 e8 e9 e10
    cases hsy : shortB y with
    | false =>
      refine (HT.out _ (Hry.out.below HB.out)).mono ?_
      rw [hsy]
      rintro e w2 ⟨rfl, hb⟩
      have HX := Lib.hid ((hb.block _ (Array.getElem?_eq_some_iff.1 HX.out).1).trans HX.out)
      have HY := Lib.hid ((hb.block _ (Array.getElem?_eq_some_iff.1 HY.out).1).trans HY.out)
      have HB := Lib.hid (HB.out.trans (hb.mono HB.out.size))
      clear hb
      obtain ⟨d0, d1, d2, d3, d4, d5, d6, d7, d8, d9, d10⟩ := cells11 HX.out
      obtain ⟨e0, e1, e2, e3, e4, e5, e6, e7, e8, e9, e10⟩ := cells11 HY.out
      go_wp2_with fail
      clear d0 d1 d2 d3 d4 d5 d6 d7 d8 d9 d10 e0 e1 e2 e3 e4 e5 e6 e7 e8 e9 e10
      refine (known_any _).mono ?_
      rintro e w9 ⟨rfl, hb⟩
      have HB := Lib.hid (HB.out.trans (hb.mono HB.out.size))
      clear hb
      go_wp2_with fail
      go_ret
      exact ⟨rfl, HB.out⟩
    | true =>
      refine (HT.out _ (Hry.out.below HB.out)).mono ?_
      rw [hsy]
      rintro e w2 ⟨rfl, hb⟩
      have HX := Lib.hid ((hb.block _ (Array.getElem?_eq_some_iff.1 HX.out).1).trans HX.out)
      have HY := Lib.hid ((hb.block _ (Array.getElem?_eq_some_iff.1 HY.out).1).trans HY.out)
      have HB := Lib.hid (HB.out.trans (hb.mono HB.out.size))
      clear hb
      obtain ⟨d0, d1, d2, d3, d4, d5, d6, d7, d8, d9, d10⟩ := cells11 HX.out
      obtain ⟨e0, e1, e2, e3, e4, e5, e6, e7, e8, e9, e10⟩ := cells11 HY.out
      go_wp2_with fail
      clear d0 d1 d2 d3 d4 d5 d6 d7 d8 d9 d10 e0 e1 e2 e3 e4 e5 e6 e7 e8 e9 e10
      have HL := Lib.hid (shortB_lens hsx)
      clear hsx hsy HS HT
      have HP := Lib.hid (framePut_any w2 x A c (Hrx.out.below HB.out) HL.out.2.2 (by have := HL.out.1; omega) Hox.out)
      obtain ⟨l, hl⟩ : ∃ l, putL x = l := ⟨_, rfl⟩
      obtain ⟨pe, hpe⟩ : ∃ pe, putE x = pe := ⟨_, rfl⟩
      have HPL := Lib.hid hl
      have HPE := Lib.hid hpe
      rw [hl, hpe] at HP
      unfold Fr.cells at HP
      refine HP.out.mono ?_
      rintro e w3 ⟨A1, c1, rfl, hO⟩
      have HO := Lib.hid hO
      have hb := hO.2.2
      clear hO HP
      have HX := Lib.hid ((hb.block _ (Array.getElem?_eq_some_iff.1 HX.out).1).trans HX.out)
      have HY := Lib.hid ((hb.block _ (Array.getElem?_eq_some_iff.1 HY.out).1).trans HY.out)
      have HB := Lib.hid (HB.out.trans (hb.mono HB.out.size))
      clear hb
      obtain ⟨d0, d1, d2, d3, d4, d5, d6, d7, d8, d9, d10⟩ := cells11 HX.out
      obtain ⟨e0, e1, e2, e3, e4, e5, e6, e7, e8, e9, e10⟩ := cells11 HY.out
      go_wp2_with fail
      clear d0 d1 d2 d3 d4 d5 d6 d7 d8 d9 d10 e0 e1 e2 e3 e4 e5 e6 e7 e8 e9 e10
      have HP := Lib.hid (refFrPut_any w3 x A c (Hrx.out.below HB.out) Hox.out HL.out.2.2 (by have := HL.out.1; omega))
      rw [hl, hpe] at HP
      unfold Fr.cells at HP
      refine HP.out.mono ?_
      rintro e w4 ⟨s, rfl, hs, hb⟩
      have HO := Lib.hid (HO.out.keep hb)
      clear HP
      have HX := Lib.hid ((hb.block _ (Array.getElem?_eq_some_iff.1 HX.out).1).trans HX.out)
      have HY := Lib.hid ((hb.block _ (Array.getElem?_eq_some_iff.1 HY.out).1).trans HY.out)
      have HB := Lib.hid (HB.out.trans (hb.mono HB.out.size))
      clear hb
      clear hl hpe
      have hcv : ∀ w', KeepsBut [] w4.drew w' → (convert 25 9 (.slice A1 l.length c1)).run Try.prog w' = .ok (.string s) w' := fun w' hk => by
        have h := run_string_of_bytes c1 (HO.out.1.reads.keep (w' := w') fun p u hp => hk.cell (w := w4.drew) hp (by simp))
        have e : (⟨l.toArray⟩ : ByteArray) = s := by rw [← hs, mk_bl]
        rw [e] at h
        exact h
      have hss : (s.toList == s.toList) = true := beq_self_eq_true _
      have hpp : ((pe : Int) == (pe : Int)) = true := beq_self_eq_true _
      have HSb := Lib.hid hs
      have HX := Lib.hid (show w4.drew.heap[W.heap.size]? = _ from HX.out)
      have HY := Lib.hid (show w4.drew.heap[W.heap.size + 1]? = _ from HY.out)
      obtain ⟨d0, d1, d2, d3, d4, d5, d6, d7, d8, d9, d10⟩ := keeps11 (M := []) (w := w4.drew) HX.out (by simp)
      obtain ⟨e0, e1, e2, e3, e4, e5, e6, e7, e8, e9, e10⟩ := keeps11 (M := []) (w := w4.drew) HY.out (by simp)
      have HB := Lib.hid HB.out.drew
      have HO := Lib.hid (show ByteOut w2 w4.drew A1 c1 l from HO.out.keep (Below.refl _ _).drew)
      clear hs
      go_wp2_with fail
      refine wp_region_mix3 (KeepsBut []) (KeepsBut.refl []) (KeepsBut.trans []) [] [(0, 0), (0, 2), (1, 1), (0, 3), (0, 4), (0, 5), (0, 6), (0, 7), (0, 8), (0, 9), (1, 10), (1, 11), (1, 13), (1, 14), (2, 12), (2, 15), (0, 16), (0, 17)] (by kernel_rfl) (by kernel_rfl) (fun d _ _ _ _ h => by cases d <;> exact h) ?_
      generalize w4.drew = wd at hcv HX HY d0 d1 d2 d3 d4 d5 d6 d7 d8 d9 d10 e0 e1 e2 e3 e4 e5 e6 e7 e8 e9 e10 HB HO ⊢
      repeat (first
        | (refine mix3_free (v := ?_) rfl rfl ?_ (mix3_norm (a' := ?_) ?_ ?_)
           rotate_left
           focus (intro w'; go_simp; first | done | (with_reducible rfl))
           rotate_left
           focus (simp only [Act.put, List.getElem_toArray, List.getElem_cons_zero, List.getElem_cons_succ, List.setIfInBounds_toArray, List.set_cons_zero, List.set_cons_succ]; rfl))
        | (refine mix3_pure (v := ?_) rfl rfl ?_ (mix3_norm (a' := ?_) ?_ ?_)
           rotate_left
           focus (intro w' hR; go_simp; first | done | (with_reducible rfl))
           rotate_left
           focus (simp only [Act.put, List.getElem_toArray, List.getElem_cons_zero, List.getElem_cons_succ, List.setIfInBounds_toArray, List.set_cons_zero, List.set_cons_succ]; rfl))
        | (refine mix3_freeOff rfl rfl (mix3_norm (a' := ?_) ?_ ?_)
           rotate_left
           focus (simp only [Act.put, List.getElem_toArray, List.getElem_cons_zero, List.getElem_cons_succ, List.setIfInBounds_toArray, List.set_cons_zero, List.set_cons_succ]; rfl))
        | (refine mix3_off rfl rfl (mix3_norm (a' := ?_) ?_ ?_)
           rotate_left
           focus (simp only [Act.put, List.getElem_toArray, List.getElem_cons_zero, List.getElem_cons_succ, List.setIfInBounds_toArray, List.set_cons_zero, List.set_cons_succ]; rfl)))
      clear d0 d1 d2 d3 d4 d5 d6 d7 d8 d9 d10 e0 e1 e2 e3 e4 e5 e6 e7 e8 e9 e10 hcv hss hpp
      obtain ⟨q, hq⟩ : ∃ q, alikeB x y = q := ⟨_, rfl⟩
      have HA := Lib.hid (fun w hr hs => frameAlike_any x y A B c d w hr hs (by have := HL.out.1; omega))
      have HR := Lib.hid (fun w hr hs => refAlike_any x y A B c d w hr hs (by have := HL.out.1; omega))
      rw [hq] at HA HR
      unfold Fr.cells at HA HR
      clear hq
      refine mix3_eff rfl ?_
      simp only [List.getElem_toArray, List.getElem_cons_zero, List.getElem_cons_succ]
      go_wp2_with fail
      refine (HA.out _ (Hrx.out.below HB.out) (Hry.out.below HB.out)).mono ?_
      rintro e w5 ⟨rfl, hb⟩
      have hk : KeepsBut [] _ _ := KeepsBut.of_below hb
      have HO := Lib.hid (HO.out.keep hb)
      have HX := Lib.hid ((hb.block _ (Array.getElem?_eq_some_iff.1 HX.out).1).trans HX.out)
      have HY := Lib.hid ((hb.block _ (Array.getElem?_eq_some_iff.1 HY.out).1).trans HY.out)
      have HB := Lib.hid (HB.out.trans (hb.mono HB.out.size))
      clear hb
      go_wp2_with fail
      refine mixQ3_normal hk rfl ?_
      clear hk HA
      refine mix3_eff rfl ?_
      simp only [List.getElem_toArray, List.getElem_cons_zero, List.getElem_cons_succ]
      go_wp2_with fail
      refine (HR.out _ (Hrx.out.below HB.out) (Hry.out.below HB.out)).mono ?_
      rintro e w6 ⟨rfl, hb⟩
      have hk : KeepsBut [] _ _ := KeepsBut.of_below hb
      have HO := Lib.hid (HO.out.keep hb)
      have HX := Lib.hid ((hb.block _ (Array.getElem?_eq_some_iff.1 HX.out).1).trans HX.out)
      have HY := Lib.hid ((hb.block _ (Array.getElem?_eq_some_iff.1 HY.out).1).trans HY.out)
      have HB := Lib.hid (HB.out.trans (hb.mono HB.out.size))
      clear hb
      go_wp2_with fail
      refine mixQ3_normal hk rfl ?_
      clear hk HR
      have hqq : ∀ w', (binOp .neq 4 (.bool q) (.bool q)).run Try.prog w' = .ok (.bool false) w' := fun w' => by cases q <;> kernel_rfl
      repeat (first
        | (refine mix3_free (v := ?_) rfl rfl ?_ (mix3_norm (a' := ?_) ?_ ?_)
           rotate_left
           focus (intro w'; go_simp; first | done | (with_reducible rfl))
           rotate_left
           focus (simp only [Act.put, List.getElem_toArray, List.getElem_cons_zero, List.getElem_cons_succ, List.setIfInBounds_toArray, List.set_cons_zero, List.set_cons_succ]; rfl))
        | (refine mix3_pure (v := ?_) rfl rfl ?_ (mix3_norm (a' := ?_) ?_ ?_)
           rotate_left
           focus (intro w' hR; go_simp; first | done | (with_reducible rfl))
           rotate_left
           focus (simp only [Act.put, List.getElem_toArray, List.getElem_cons_zero, List.getElem_cons_succ, List.setIfInBounds_toArray, List.set_cons_zero, List.set_cons_succ]; rfl))
        | (refine mix3_freeOff rfl rfl (mix3_norm (a' := ?_) ?_ ?_)
           rotate_left
           focus (simp only [Act.put, List.getElem_toArray, List.getElem_cons_zero, List.getElem_cons_succ, List.setIfInBounds_toArray, List.set_cons_zero, List.set_cons_succ]; rfl))
        | (refine mix3_off rfl rfl (mix3_norm (a' := ?_) ?_ ?_)
           rotate_left
           focus (simp only [Act.put, List.getElem_toArray, List.getElem_cons_zero, List.getElem_cons_succ, List.setIfInBounds_toArray, List.set_cons_zero, List.set_cons_succ]; rfl)))
      refine mix3_done ?_
      clear hqq
      cases hp : putOk x with
      | false =>
        obtain rfl : pe = 6 := by rw [← HPE.out]; unfold putE; rw [hp]; rfl
        clear hp
        go_wp2_with fail
        refine (known_any _).mono ?_
        rintro e w9 ⟨rfl, hb⟩
        have HB := Lib.hid (HB.out.trans (hb.mono HB.out.size))
        clear hb
        go_wp2_with fail
        go_ret
        exact ⟨rfl, HB.out⟩
      | true =>
        obtain rfl : pe = 0 := by rw [← HPE.out]; unfold putE; rw [hp]; rfl
        have HG := Lib.hid (frGet_any w6 A1 c1 l HO.out.1.reads HO.out.1.cap (by rw [← HPL.out, putL_length hp]; have := HL.out.2.2; have := bodyL_le (put_parts hp).1; omega))
        have hgp := get_put Hox.out hp
        rw [HPL.out] at hgp
        rw [hgp.1, hgp.2] at HG
        unfold Fr.cells at HG
        clear hgp hp
        go_wp2_with fail
        refine HG.out.mono ?_
        rintro e w7 ⟨A2, c2, rfl, hS⟩
        have HS := Lib.hid hS
        have hb := hS.2.2
        clear hS HG
        have HX := Lib.hid ((hb.block _ (Array.getElem?_eq_some_iff.1 HX.out).1).trans HX.out)
        have HY := Lib.hid ((hb.block _ (Array.getElem?_eq_some_iff.1 HY.out).1).trans HY.out)
        have HB := Lib.hid (HB.out.trans (hb.mono HB.out.size))
        clear hb
        obtain ⟨d0, d1, d2, d3, d4, d5, d6, d7, d8, d9, d10⟩ := cells11 HX.out
        have hlt7 := (Array.getElem?_eq_some_iff.1 HX.out).1
        go_wp2_with fail
        clear d0 d1 d2 d3 d4 d5 d6 d7 d8 d9 d10 hlt7
        obtain ⟨hb, hgz, _⟩ := alloc1 w7 #[.int .i64 x.k, .int .u64 (x.s : Int), .int .u64 (x.e : Int), .int .u32 (x.q : Int), .int .u32 (x.v : Int), .int .i64 x.n, .int .i64 x.f, .int .i64 x.i, .int .i64 x.c, .string x.d, .slice A2 x.l.length c2] 41
        have HZr := Lib.hid ((HS.out.1.below hb).reads)
        generalize w7.alloc (.cells #[.int .i64 x.k, .int .u64 (x.s : Int), .int .u64 (x.e : Int), .int .u32 (x.q : Int), .int .u32 (x.v : Int), .int .i64 x.n, .int .i64 x.f, .int .i64 x.i, .int .i64 x.c, .string x.d, .slice A2 x.l.length c2] 41) = w8 at hb hgz HZr ⊢
        have HX := Lib.hid ((hb.block _ (Array.getElem?_eq_some_iff.1 HX.out).1).trans HX.out)
        have HY := Lib.hid ((hb.block _ (Array.getElem?_eq_some_iff.1 HY.out).1).trans HY.out)
        have HB := Lib.hid (HB.out.trans (hb.mono HB.out.size))
        clear hb
        clear hgz
        have HR := Lib.hid (refAlike_any x x A2 A c2 c w8 HZr.out (Hrx.out.below HB.out) (by have := HL.out.1; omega))
        rw [(alikeB_iff x x).2 rfl] at HR
        unfold Fr.cells at HR
        refine HR.out.mono ?_
        rintro e w10 ⟨rfl, hb⟩
        have HB := Lib.hid (HB.out.trans (hb.mono HB.out.size))
        clear hb
        go_wp2_with fail
        refine (known_any _).mono ?_
        rintro e w9 ⟨rfl, hb⟩
        have HB := Lib.hid (HB.out.trans (hb.mono HB.out.size))
        clear hb
        go_wp2_with fail
        go_ret
        exact ⟨rfl, HB.out⟩
end Go.Proofs.Ytcahflddafdhfaa
