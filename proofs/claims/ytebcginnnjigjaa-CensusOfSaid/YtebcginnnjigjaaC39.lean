import Derived.Test.YtebcginnnjigjaaC37
import Derived.Test.YtebcginnnjigjaaC36
import Derived.Test.YtebcginnnjigjaaC20
import Derived.Lib.SlBytesConst
import Derived.Test.YtebcginnnjigjaaC35
import Derived.Test.YtebcginnnjigjaaC28
section
/- The census' law: what must come of fixed calls, walked. -/
open Go.RowKit
namespace Go.Proofs.Ytebcginnnjigjaa
set_option maxHeartbeats 4000000 in
set_option maxRecDepth 100000 in
theorem known45_any (W : World) : Calls Try.prog 6 #[] W fun e w' => e = .returned (.bool true) ∧ Below W.heap.size W w' := by
  go_enter Try.func6, Try.ntmps6
  go_wp2_with fail
  refine (netNew_any W).mono ?_
  rintro e w1 ⟨rfl, hN1, hb1, -⟩
  generalize hgW : W.heap.size = g at hN1 hb1 ⊢
  have HB := Lib.hid (Nat.le_of_eq hgW.symm)
  have Hg := Lib.hid hgW
  clear hgW
  have HN := Lib.hid hN1
  have Hb := Lib.hid hb1
  clear hN1 hb1
  go_wp2_with fail
  refine (cens_put _).mono ?_
  rintro e w2 ⟨A1, c1, rfl, hO⟩
  have HS := Lib.hid (netSend_any w2 g none 0 Nt.none cn_ok.1 (HN.out.chg (F := fun _ => False) (.of_below hO.2.2) (fun _ _ f => f)) 1 A1 (putL fq) c1 hO.1.reads)
  have Hb := Lib.hid (Hb.out.trans (hO.2.2.mono (B' := g) (by have := HN.out.lt; omega)))
  rw [fq_len, cn1_is.1, cn1_is.2, show ((0 : Nat) : Int) = 0 from rfl] at HS
  clear hO HN
  go_wp2_with fail
  refine HS.out.mono ?_
  rintro e w3 ⟨rfl, hp⟩
  obtain ⟨A3, c3, hN, hb, hA⟩ := hp.next Hb.out HB.out (Nat.le_refl g) (by simp [blk])
  clear hp HS Hb
  have HN := Lib.hid hN
  have Hb := Lib.hid hb
  have HA := Lib.hid hA
  have hcv := Go.Lib.run_convert_bytes_const (P := Try.prog) w3 61 5 #[.int .u8 120] 1 1 Try.underlying61 Try.underlying5
  clear hN hb hA
  go_wp2_with fail
  obtain ⟨hb, hr⟩ : Below w3.heap.size w3 (w3.alloc (.cells #[.int .u8 120] 5 (1, 2))) ∧ Reads (w3.alloc (.cells #[.int .u8 120] 5 (1, 2))) 1 (some ⟨w3.heap.size, 0, none⟩) 1 (bv [120]) :=
    ⟨(Below.refl _ _).alloc (Nat.le_refl _) _, Reads.of_block (n := 1) (heap_alloc_new _ _) rfl⟩
  have hN := HN.out.chg (F := fun _ => False) (.of_below hb) (fun _ _ f => f)
  have hb := Hb.out.trans (hb.mono (B' := g) (by have := HN.out.lt; omega))
  clear hcv
  refine (netSend_any _ g A3 c3 cn1 cn_ok.2.1 hN 0 (some ⟨w3.heap.size, 0, none⟩) [120] 1 hr).mono ?_
  rintro e w4 ⟨rfl, hp⟩
  rw [cn2_is.1, show ((0 : Nat) : Int) = 0 from rfl]
  rw [cn2_is.2] at hp
  clear hN hr HN Hb
  obtain ⟨A4, c4, hN, hb, hA⟩ := hp.next hb HB.out (Nat.le_refl g) HA.out
  clear hp HA
  have HN := Lib.hid hN
  have Hb := Lib.hid hb
  have HA := Lib.hid hA
  have HO := Lib.hid (of_any w4 g A4 c4 cn2 hN cn2_pk (by decide))
  rw [cvC_cn2] at HO
  unfold cnC at HO
  clear hN hb hA
  go_wp2_with fail
  refine HO.out.mono ?_
  rintro e w5 ⟨rfl, hb5⟩
  obtain ⟨hb6, hg6, hs6⟩ := alloc1 w5 #[.int .i64 1, .int .i64 1, .int .i64 0, .int .i64 0, .int .i64 0, .int .i64 0, .int .i64 0, .int .i64 0, .int .i64 0, .int .i64 1, .int .i64 1, .int .i64 28] 33
  have HB6 := Lib.hid (show Below w4.heap.size w4 _ from hb5.trans (hb6.mono (B' := w4.heap.size) hb5.size))
  have HG := Lib.hid hg6
  have HLe := Lib.hid (show w4.heap.size ≤ w5.heap.size from hb5.size)
  clear HO hb5 hb6 hg6 hs6
  go_wp2_with fail
  generalize w5.alloc (.cells #[.int .i64 1, .int .i64 1, .int .i64 0, .int .i64 0, .int .i64 0, .int .i64 0, .int .i64 0, .int .i64 0, .int .i64 0, .int .i64 1, .int .i64 1, .int .i64 28] 33) = w6 at HB6 HG ⊢
  generalize w5.heap.size = gc at HG HLe ⊢
  have HN6 := Lib.hid (HN.out.chg (F := fun _ => False) (.of_below HB6.out) (fun _ _ f => f))
  have HSe := Lib.hid (sessions_any 1 sortsTo_one w6 g A4 c4 cn2 HN6.out cn2_pk (by decide) (fun ys h => by rw [ses_cn2] at h; rw [fin_one h]; exact Nat.le_refl _))
  refine HSe.out.mono ?_
  rintro e w7 ⟨ss, A7, c7, hfin, -, rfl, hK, hA7, hb7⟩
  rw [ses_cn2] at hfin
  obtain rfl := fin_one hfin
  have hN7 := HN6.out.chg (F := fun _ => False) (.of_below hb7) (fun _ _ f => f)
  have HC := Lib.hid (clean_any w7 g A4 c4 cn2 hN7 cn2_pk (by decide) (by decide) (by decide) (by decide) 3)
  rw [clean_cn2.1] at HC
  have HF4 := Lib.hid (fun i hi => HN.out.foot i hi)
  have HG7 := Lib.hid ((hb7.block gc (Array.getElem?_eq_some_iff.1 HG.out).1).trans HG.out)
  have Hb7 := Lib.hid ((Hb.out.trans (HB6.out.mono (B' := g) (by have := HN.out.lt; omega))).trans (hb7.mono (B' := g) (by have := HN6.out.lt; omega)))
  have HK := Lib.hid hK
  have HA7 := Lib.hid hA7
  have HL6 := Lib.hid HB6.out.size
  have HA4 := HA
  clear hN7 hK hA7 hb7 hfin HSe HG HN6 HN HB6 Hb
  go_wp2_with fail
  refine HC.out.mono ?_
  rintro e w8 ⟨rfl, hp⟩
  have hC8 := hp.choose_spec.choose_spec.2.2
  have hG8 := (hC8.block gc (Array.getElem?_eq_some_iff.1 HG7.out).1 (fun hf => by have := HF4.out gc hf; have := HLe.out; omega)).trans HG7.out
  have hK8 := HK.out.chg hC8 (fun k hk hf => by have := HF4.out k hf; have := HA7.out k hk; have := HL6.out; omega)
  obtain ⟨ad, rfl, hc⟩ := hK8.reads.2 (by simp)
  have hc0 : w8.cell? ad = some (.int .u64 3) := by
    have h := hc 0 (.int .u64 3) rfl
    simpa [Addr.add] using h
  obtain ⟨A8, c8, hN8, hb8, hA8⟩ := hp.next Hb7.out HB.out (Nat.le_refl g) HA4.out
  have HLn := Lib.hid (netLen_any w8 g A8 c8 _ hN8)
  rw [clean_cn2.2] at HLn
  have Hb8 := Lib.hid hb8
  obtain ⟨d0, d1, d2, d3, d4, d5, d6, d7, d8, d9, d10, d11⟩ := cells12 hG8
  have q2 := eql_two
  have q3 := eql_cen
  unfold cen0 at q3
  clear hp hC8 hK8 hc hN8 hb8 hA8 HC
  go_wp2_with fail
  refine HLn.out.mono ?_
  rintro e w9 ⟨rfl, rfl⟩
  rw [show ((1 : Nat) : Int) = 1 from rfl]
  have HNil := Lib.hid (of_nil w8)
  rw [show cvC (ofL []) = cen0 from rfl] at HNil
  unfold cen0 at HNil
  clear d0 d1 d2 d3 d4 d5 d6 d7 d8 d9 d10 d11 hc0
  go_wp2_with fail
  refine HNil.out.mono ?_
  rintro e w9 ⟨rfl, hb9⟩
  have Hb9 := Lib.hid (Hb8.out.trans (hb9.mono (B' := g) (Nat.le_trans HB.out Hb8.out.size)))
  clear hb9 HNil HLn
  go_wp2_with fail
  go_ret
  exact ⟨rfl, Hg.out ▸ Hb9.out⟩
end Go.Proofs.Ytebcginnnjigjaa

end
section
/- The law: what is lost when but one session's frames are to be left. -/
open Go.RowKit
namespace Go.Proofs.Ytebcginnnjigjaa

theorem keepB_true {z : Int} {p : Int × ByteArray} (h : keepB z p = true) : getE (bl p.2) = 0 ∧ ((getX (bl p.2)).s : Int) = z := by
  unfold keepB at h
  rw [Bool.and_eq_true] at h
  exact ⟨of_decide_eq_true h.1, of_decide_eq_true h.2⟩
theorem clean_keeps (z : Int) (σ : Nt) (k : Nat) (hk : k < (cleanN z σ).ps.length) : keepB z (cleanN z σ).ps[k] = true := by
  have h : (cleanN z σ).ps[k] ∈ σ.ps.filter (keepB z) := List.getElem_mem hk
  exact (List.mem_filter.1 h).2
theorem clean_pk {z : Int} {σ : Nt} (h : PkOk σ.ps) : PkOk (cleanN z σ).ps := fun p hp => h p (List.mem_filter.1 hp).1
set_option maxHeartbeats 8000000 in
set_option maxRecDepth 100000 in
theorem censusCleans_any (A0 : Option Addr) (ls : List (Int × ByteArray)) (c0 : Nat) (z : Int) (w : World) (hr : Reads w 2 A0 ls.length (pks ls)) :
    Calls Try.prog 4 #[.slice A0 ls.length c0, .int .u64 z] w fun e w' => e = .returned (.bool true) ∧ Below w.heap.size w w' := by
  have HS := Lib.hid (shortP_any w A0 ls c0 hr)
  have Hr := Lib.hid hr
  clear hr
  cases hsh : shortP ls with
  | false =>
    rw [hsh] at HS
    go_enter Try.func4, Try.ntmps4
    go_wp2_with fail
    refine HS.out.mono ?_
    rintro e w1 ⟨rfl, rfl⟩
    go_wp2_with fail
    refine (known45_any _).mono ?_
    rintro e w1 ⟨rfl, hb⟩
    go_wp2_with fail
    go_ret
    exact ⟨rfl, hb⟩
  | true =>
    have HL := Lib.hid (laid_any w A0 ls c0 Hr.out hsh)
    rw [hsh] at HS
    clear hsh
    go_enter Try.func4, Try.ntmps4
    go_wp2_with fail
    refine HS.out.mono ?_
    rintro e w1 ⟨rfl, rfl⟩
    go_wp2_with fail
    refine HL.out.mono ?_
    rintro e w2 ⟨g, A, c, g', A', c', σ, rfl, hinv, hD⟩
    have Hinv := Lib.hid hinv
    have HD := Lib.hid hD
    clear HS HL hinv hD
    go_wp2_with fail
    refine wp_region_mix3 (KeepsBut []) (KeepsBut.refl []) (KeepsBut.trans []) [2, 5] [(0, 0), (0, 1), (0, 3), (0, 4), (2, 2), (2, 5), (0, 6), (0, 7), (0, 8), (0, 10), (0, 11), (0, 12), (1, 13), (0, 14), (2, 9), (0, 15), (0, 16)] (by kernel_rfl) (by kernel_rfl) (fun d _ _ _ _ h => by cases d <;> exact h) ?_
    repeat ((first | (refine mix3_free (v := ?_) rfl rfl ?_ (mix3_norm (a' := ?_) ?_ ?_); rotate_left; focus (intro w'; go_simp; first | done | (with_reducible rfl))) | (refine mix3_pure (v := ?_) rfl rfl ?_ (mix3_norm (a' := ?_) ?_ ?_); rotate_left; focus (intro w' hR; go_simp; first | done | (with_reducible rfl))) | refine mix3_freeOff rfl rfl (mix3_norm (a' := ?_) ?_ ?_) | refine mix3_off rfl rfl (mix3_norm (a' := ?_) ?_ ?_)); rotate_left; focus (simp only [Act.put, List.getElem_toArray, List.getElem_cons_zero, List.getElem_cons_succ, List.setIfInBounds_toArray, List.set_cons_zero, List.set_cons_succ]; rfl))
    have HD2 := Lib.hid (HD.out.keep (Nat.le_refl _) ((Below.refl w2.heap.size w2).drew))
    clear HD
    generalize w2.drew = w3 at HD2 ⊢
    obtain ⟨i1, i2, i3, i4, i5, i6, i7⟩ := Hinv.out
    have HC := Lib.hid (clean_any w3 g A c σ HD2.out.d.n i7 ⟨i1, by omega⟩ ⟨by omega, by omega⟩ ⟨i4, by omega⟩ i6 z)
    refine mix3_eff rfl ?_
    simp only [List.getElem_toArray, List.getElem_cons_zero, List.getElem_cons_succ]
    go_wp2_with fail
    refine HC.out.mono ?_
    rintro e w4 ⟨rfl, hp⟩
    obtain ⟨A4, c4, hD4, n4, C4⟩ := HD2.out.d.onN hp
    go_wp2_with fail
    refine mixQ3_last (by simp) rfl ?_
    have HR := Lib.hid (refClean_any w4 g' A' c' σ hD4.r i7 ⟨i1, by omega⟩ ⟨by omega, by omega⟩ ⟨i4, by omega⟩ i6 z)
    have HD4 := Lib.hid hD4
    have HN4 := Lib.hid n4
    have HC4 := Lib.hid C4
    clear hp hD4 n4 C4 HC i1 i2 i3 i4 i5
    refine mix3_eff rfl ?_
    simp only [List.getElem_toArray, List.getElem_cons_zero, List.getElem_cons_succ]
    go_wp2_with fail
    refine HR.out.mono ?_
    rintro e w5 ⟨rfl, hp⟩
    obtain ⟨A5, c5, hD5, n5, C5⟩ := HD4.out.onR hp
    obtain ⟨Ax, cx, Ay, cy, hfin⟩ := HD2.out.next (Nat.le_refl _) (duo_both hD5 HN4.out HC4.out (Below.refl _ _) n5 C5)
    have HF := Lib.hid hfin
    have HT := Lib.hid (clean_keeps z σ)
    have HPk := Lib.hid (clean_pk (z := z) i7)
    have hT60 : (cleanN z σ).ps.length ≤ 60 := Nat.le_trans (List.length_filter_le _ _) i6
    obtain ⟨⟨q0, _, _, _⟩, _⟩ := hfin.d.r.cells
    generalize gone z σ.ps = G
    generalize cleanN z σ = τ at HF HT HPk q0 hT60
    have p0 := fun w' (hk : KeepsBut [] w5 w') => hk.cell (p := ⟨g', 0, none⟩) q0 (by simp)
    have HLn := Lib.hid (netLen_any w5 g Ax cx τ HF.out.d.n)
    clear hp hD5 n5 C5 hfin HR HD4 HN4 HC4 HD2 i6 i7 q0
    go_wp2_with fail
    refine mixQ3_last (by simp) rfl ?_
    repeat ((first | (refine mix3_free (v := ?_) rfl rfl ?_ (mix3_norm (a' := ?_) ?_ ?_); rotate_left; focus (intro w'; go_simp; first | done | (with_reducible rfl))) | (refine mix3_pure (v := ?_) rfl rfl ?_ (mix3_norm (a' := ?_) ?_ ?_); rotate_left; focus (intro w' hR; go_simp; first | done | (with_reducible rfl))) | refine mix3_freeOff rfl rfl (mix3_norm (a' := ?_) ?_ ?_) | refine mix3_off rfl rfl (mix3_norm (a' := ?_) ?_ ?_)); rotate_left; focus (simp only [Act.put, List.getElem_toArray, List.getElem_cons_zero, List.getElem_cons_succ, List.setIfInBounds_toArray, List.set_cons_zero, List.set_cons_succ]; rfl))
    clear p0
    refine mix3_eff rfl ?_
    simp only [List.getElem_toArray, List.getElem_cons_zero, List.getElem_cons_succ]
    go_wp2_with fail
    refine HLn.out.mono ?_
    rintro e w6 ⟨rfl, rfl⟩
    go_wp2_with fail
    refine mixQ3_normal (KeepsBut.refl _ _) rfl ?_
    repeat ((first | (refine mix3_free (v := ?_) rfl rfl ?_ (mix3_norm (a' := ?_) ?_ ?_); rotate_left; focus (intro w'; go_simp; first | done | (with_reducible rfl))) | (refine mix3_pure (v := ?_) rfl rfl ?_ (mix3_norm (a' := ?_) ?_ ?_); rotate_left; focus (intro w' hR; go_simp; first | done | (with_reducible rfl))) | refine mix3_freeOff rfl rfl (mix3_norm (a' := ?_) ?_ ?_) | refine mix3_off rfl rfl (mix3_norm (a' := ?_) ?_ ?_)); rotate_left; focus (simp only [Act.put, List.getElem_toArray, List.getElem_cons_zero, List.getElem_cons_succ, List.setIfInBounds_toArray, List.set_cons_zero, List.set_cons_succ]; rfl))
    refine mix3_done ?_
    clear HLn
    go_wp2_with fail
    go_loopw [7] (fun i wr => ∃ k : Nat, k ≤ τ.ps.length ∧ i = .int .i64 k ∧ Hid (DuoC w.heap.size w wr g Ax cx g' Ay cy τ)) (fun i _ => τ.ps.length - (intOf i).toNat)
    case atStart => exact ⟨0, Nat.zero_le _, rfl, HF⟩
    case round =>
      clear HF
      obtain ⟨k, hk, rfl, HD⟩ := hrel
      obtain ⟨⟨q0, q1, q2, q3⟩, _⟩ := HD.out.d.r.cells
      by_cases hlt : k < τ.ps.length
      · have hkt := keepB_true (HT.out k hlt)
        have HSz := Lib.hid (HPk.out τ.ps[k] (List.getElem_mem hlt)).2
        obtain ⟨b, hAy, _⟩ := HD.out.d.r.2.1.form (by omega)
        subst hAy
        obtain ⟨r0, r1, _, _⟩ := HD.out.d.r.2.1.cell k hlt
        have HAt := Lib.hid (netAt_any wr g Ax cx τ HD.out.d.n (k : Int))
        rw [pAt_in hlt, hasE_in (show inN τ (k : Int) by unfold inN; omega)] at HAt
        generalize τ.ps[k] = p at hkt HSz r0 r1 HAt
        obtain ⟨x, s⟩ := p
        simp only at hkt r0 r1
        obtain ⟨hk0, hkz⟩ := hkt
        rw [show ((0 : Nat) : Int) = 0 from rfl] at HAt
        have hRow := Lib.hid (show ∀ W, Below wr.heap.size wr W → W.cell? ⟨g', 0, none⟩ = some (.slice (some ⟨b, 0, none⟩) τ.ps.length cy) ∧ W.cell? ⟨b, k * 2, none⟩ = some (.int .i64 x) ∧ W.cell? ⟨b, k * 2 + 1, none⟩ = some (.string s) from fun W hW =>
          ⟨(hW.cell (p := ⟨g', 0, none⟩) (World.block_lt_of_cell? _ _ q0)).trans q0, (hW.cell (p := ⟨b, k * 2, none⟩) (World.block_lt_of_cell? _ _ r0)).trans r0, (hW.cell (p := ⟨b, k * 2 + 1, none⟩) (World.block_lt_of_cell? _ _ r1)).trans r1⟩)
        clear q1 q2 q3 r0 r1
        go_wp2_with fail
        refine HAt.out.mono ?_
        rintro e w7 ⟨rfl, hb7⟩
        obtain ⟨hb8, hg8, hs8⟩ := alloc1 w7 #[.int .i64 x, .string s] 51
        have HB8 := Lib.hid (show Below wr.heap.size wr _ from hb7.trans (hb8.mono (B' := wr.heap.size) hb7.size))
        obtain ⟨b0, b1, _, _⟩ := cells2 hg8
        have HG8 := Lib.hid hg8
        clear HAt hb7 hb8 hg8 hs8 q0
        go_wp2_with (refine wpList_bytes_of rfl (.tmp 58) rfl s rfl ?_)
        intro A3 c3 W3 hr hc hb3
        have HG := Lib.hid (frGet_any W3 A3 c3 (bl s) hr (by rw [bl_length]; exact hc) (by rw [bl_length]; have : s.size ≤ 100000 := HSz.out; omega))
        rw [hk0] at HG
        have hb8s := HB8.out.size
        have HB3 := Lib.hid (HB8.out.trans (hb3.mono (B' := wr.heap.size) (by simpa only [size_alloc] using hb8s)))
        have HG3 := Lib.hid ((hb3.block _ (Nat.lt_succ_self _)).trans HG8.out)
        generalize w7.heap.size = gp at HG3 ⊢
        generalize getX (bl s) = y at HG hkz
        have HKz := Lib.hid hkz
        clear hkz
        unfold Fr.cells at HG
        clear hr hc hb3 b0 b1 HB8 HG8 hb8s hk0
        go_wp2_with fail
        refine HG.out.mono ?_
        rintro e W4 ⟨A4, c4, rfl, ho⟩
        have hb4 := ho.2.2
        obtain ⟨hb5, hg5, hs5⟩ := alloc1 W4 #[.int .i64 y.k, .int .u64 (y.s : Int), .int .u64 (y.e : Int), .int .u32 (y.q : Int), .int .u32 (y.v : Int), .int .i64 y.n, .int .i64 y.f, .int .i64 y.i, .int .i64 y.c, .string y.d, .slice A4 y.l.length c4] 58
        obtain ⟨_, d1, _⟩ := cells11 hg5
        have hG5 := (hb5.block gp (Array.getElem?_eq_some_iff.1 ((hb4.block gp (Array.getElem?_eq_some_iff.1 HG3.out).1).trans HG3.out)).1).trans ((hb4.block gp (Array.getElem?_eq_some_iff.1 HG3.out).1).trans HG3.out)
        obtain ⟨e0, e1, _, _⟩ := cells2 hG5
        have HB5 := Lib.hid ((HB3.out.trans (hb4.mono (B' := wr.heap.size) HB3.out.size)).trans (hb5.mono (B' := wr.heap.size) (Nat.le_trans HB3.out.size hb4.size)))
        obtain ⟨f0, f1, f2⟩ := hRow.out _ HB5.out
        clear ho hb4 hb5 hg5 hs5 HG HB3 hG5 HG3 hRow
        rw [show ((0 : Nat) : Int) = 0 from rfl]
        go_wp2_with fail
        generalize W4.alloc (.cells #[.int .i64 y.k, .int .u64 (y.s : Int), .int .u64 (y.e : Int), .int .u32 (y.q : Int), .int .u32 (y.v : Int), .int .i64 y.n, .int .i64 y.f, .int .i64 y.i, .int .i64 y.c, .string y.d, .slice A4 y.l.length c4] 58) = W5 at d1 e0 e1 HB5 f0 f1 f2 ⊢
        generalize W4.heap.size = gf at d1 ⊢
        have t0 := fun w' (hk : KeepsBut [] W5.drew w') => hk.cell (p := ⟨gp, 0, none⟩) e0 (by simp)
        have t1 := fun w' (hk : KeepsBut [] W5.drew w') => hk.cell (p := ⟨gp, 1, none⟩) e1 (by simp)
        have t2 := fun w' (hk : KeepsBut [] W5.drew w') => hk.cell (p := ⟨g', 0, none⟩) f0 (by simp)
        have t3 := fun w' (hk : KeepsBut [] W5.drew w') => hk.cell (p := ⟨b, k * 2, none⟩) f1 (by simp)
        have t4 := fun w' (hk : KeepsBut [] W5.drew w') => hk.cell (p := ⟨b, k * 2 + 1, none⟩) f2 (by simp)
        have t5 := fun w' (hk : KeepsBut [] W5.drew w') => hk.cell (p := ⟨gf, 1, none⟩) d1 (by simp)
        have hne : ∀ W, (binOp .neq 51 (.agg #[.int .i64 x, .string s]) (.agg #[.int .i64 x, .string s])).run Try.prog W = .ok (.bool false) W := fun W => by rw [neq_pk]; simp [beq_toListBytes]
        have hzz : ((y.s : Int) != z) = false := by rw [bne_eq_false_iff_eq]; exact HKz.out
        have HD5 := Lib.hid ((HD.out.keep (Nat.le_refl _) HB5.out).keep (Nat.le_refl _) ((Below.refl W5.heap.size W5).drew))
        clear e0 e1 f0 f1 f2 d1
        refine wp_region_mix3 (KeepsBut []) (KeepsBut.refl []) (KeepsBut.trans []) [] [(0, 1), (0, 2), (0, 3), (0, 5), (1, 0), (1, 4), (0, 6), (1, 7), (0, 8), (0, 9), (0, 10), (0, 11), (0, 12), (0, 13), (0, 14), (0, 16), (1, 15), (0, 17), (0, 18)] (by kernel_rfl) (by kernel_rfl) (fun d _ _ _ _ h => by cases d <;> exact h) ?_
        generalize W5.drew = W6 at t0 t1 t2 t3 t4 t5 HD5 ⊢
        repeat ((first | (refine mix3_free (v := ?_) rfl rfl ?_ (mix3_norm (a' := ?_) ?_ ?_); rotate_left; focus (intro w'; go_simp; first | done | (with_reducible rfl))) | (refine mix3_pure (v := ?_) rfl rfl ?_ (mix3_norm (a' := ?_) ?_ ?_); rotate_left; focus (intro w' hR; go_simp; first | done | (with_reducible rfl))) | refine mix3_freeOff rfl rfl (mix3_norm (a' := ?_) ?_ ?_) | refine mix3_off rfl rfl (mix3_norm (a' := ?_) ?_ ?_)); rotate_left; focus (simp only [Act.put, List.getElem_toArray, List.getElem_cons_zero, List.getElem_cons_succ, List.setIfInBounds_toArray, List.set_cons_zero, List.set_cons_succ]; rfl))
        clear t0 t1 t2 t3 t4 t5
        refine mix3_done ?_
        go_wp2_with fail
        case roundEnd =>
          exact ⟨⟨k + 1, by omega, by push_cast; rfl, HD5⟩, by simp only [intOf]; omega⟩
      · have hke : k = τ.ps.length := by omega
        subst hke
        have HCt := Lib.hid (netCounts_any wr g Ax cx τ HD.out.d.n)
        clear hk hlt q1 q2 q3
        go_wp2_with fail
        refine HCt.out.mono ?_
        rintro e w7 ⟨rfl, hb7⟩
        have HD7 := Lib.hid (HD.out.keep (Nat.le_refl _) hb7)
        obtain ⟨⟨_, q1, q2, q3⟩, _⟩ := HD7.out.d.r.cells
        clear HD HCt hb7 q0
        go_wp2_with fail
        clear q1 q2 q3
        refine (known45_any _).mono ?_
        rintro e w8 ⟨rfl, hb8⟩
        have HD8 := Lib.hid (HD7.out.keep (Nat.le_refl _) hb8)
        clear HD7 hb8
        go_wp2_with fail
        go_ret
        exact ⟨rfl, HD8.out.b⟩
end Go.Proofs.Ytebcginnnjigjaa

end
section
/- The document's Sessions: walked. -/
open Go.RowKit Go.Shelf
namespace Go.Proofs.Ytebcginnnjigjaa

/-- Between two frames: the rising row of what was met. -/
structure SesI (w : World) (pre : List Int) (A : Option Addr) (c : Nat) (ys : List Int) (W : World) : Prop where
  b : Below w.heap.size w W
  row : KRow W A c ys
  ris : Ris ys
  mem : ∀ x : Int, x ∈ ys ↔ x ∈ pre
  ge : ∀ k, blk A = some k → w.heap.size ≤ k
  len : ys.length ≤ pre.length
theorem SesI.ab {w : World} {pre : List Int} {A : Option Addr} {c : Nat} {ys : List Int} {W W' : World} (h : SesI w pre A c ys W) (hab : Below W.heap.size W W') : SesI w pre A c ys W' :=
  ⟨h.b.trans (hab.mono (B' := w.heap.size) h.b.size), h.row.below hab, h.ris, h.mem, h.ge, h.len⟩
theorem SesI.same {w : World} {pre : List Int} {A : Option Addr} {c : Nat} {ys : List Int} {W : World} (h : SesI w pre A c ys W) {k : Nat} (hk : k < ys.length) : SesI w (pre ++ [ys[k]]) A c ys W :=
  ⟨h.b, h.row, h.ris, fun x => by
    rw [List.mem_append, List.mem_singleton, ← h.mem x]
    exact ⟨.inl, fun e => e.elim id (fun e => e ▸ List.getElem_mem hk)⟩, h.ge, by rw [List.length_append]; have := h.len; omega⟩
theorem SesI.ins {w : World} {pre : List Int} {A A' : Option Addr} {c c' : Nat} {ys : List Int} {W W' : World} (h : SesI w pre A c ys W) {k : Nat} (hk : k ≤ ys.length) {x : Int} (h1 : ∀ j (hj : j < ys.length), j < k → ys[j] < x) (h2 : ∀ hk : k < ys.length, x < ys[k])
    (hb : Below w.heap.size w W') (hr : KRow W' A' c' (ys.take k ++ [x] ++ ys.drop k)) (hg : ∀ k, blk A' = some k → w.heap.size ≤ k) : SesI w (pre ++ [x]) A' c' (ys.take k ++ [x] ++ ys.drop k) W' :=
  ⟨hb, hr, ins_ris h.ris hk h1 h2, fun z => by rw [ins_mem, List.mem_append, List.mem_singleton, h.mem z], hg, by
    have := h.len
    simp only [List.length_append, List.length_cons, List.length_nil, List.length_take, List.length_drop]
    omega⟩
theorem ses_next {fl : List FT} {k : Nat} (hk : k < fl.length) : (sesL (fl.map FT.x)).take (k + 1) = (sesL (fl.map FT.x)).take k ++ [(fl[k].x.s : Int)] := by
  rw [List.take_add_one, List.getElem?_eq_getElem (by simpa [sesL] using hk)]
  simp [sesL]
set_option maxHeartbeats 8000000 in
set_option maxRecDepth 100000 in
theorem refSessions_any (w : World) (g : Nat) (A0 : Option Addr) (c0 : Nat) (σ : Nt) (h : NetR w g A0 c0 σ) (hp : PkOk σ.ps) (h60 : σ.ps.length ≤ 60) :
    Calls Try.prog 15 #[.pointer (some ⟨g, 0, none⟩)] w fun e w' => ∃ ys A c, Ris ys ∧ (∀ x : Int, x ∈ ys ↔ x ∈ sesL (framesL σ.ps)) ∧ e = .returned (.slice A ys.length c) ∧ KRow w' A c ys ∧ (∀ k, blk A = some k → w.heap.size ≤ k) ∧ Below w.heap.size w w' := by
  have HFr := Lib.hid (refFrames_any w g A0 c0 σ h hp h60)
  have H60 := Lib.hid h60
  clear h hp h60
  go_enter Try.func15, Try.ntmps15
  go_wp2_with fail
  refine HFr.out.mono ?_
  rintro e w1 ⟨AF, cF, fl, rfl, hfl, hF, hgF, hb1⟩
  have HF := Lib.hid hF
  have Hfl := Lib.hid hfl
  have Hb1 := Lib.hid hb1
  have Hl60 := Lib.hid (show fl.length ≤ 60 from by
    have h1 := congrArg List.length hfl
    rw [List.length_map] at h1
    have := framesL_len σ.ps
    have := H60.out
    omega)
  clear HFr hfl hF hb1 hgF
  go_wp2_with fail
  go_loopw [3, 5] (fun v i wr => ∃ k : Nat, k ≤ fl.length ∧ i = .int .i64 k ∧ ∃ A c ys, v = .slice A (List.length ys) c ∧ Hid (SesI w1 ((sesL (fl.map FT.x)).take k) A c ys wr)) (fun _ i _ => fl.length - (intOf i).toNat)
  case atStart => exact ⟨0, Nat.zero_le _, rfl, none, 0, [], rfl, Lib.hid ⟨Below.refl _ _, KRow.nil _, List.Pairwise.nil, fun _ => Iff.rfl, by simp [blk], Nat.le_refl _⟩⟩
  case round =>
    obtain ⟨k, hk, rfl, A, c, ys, rfl, HI⟩ := hrel
    obtain ⟨wo, hwo⟩ : ∃ wo : World, wo = wr := ⟨_, rfl⟩
    subst hwo
    have hk60 : k ≤ 60 := Nat.le_trans hk Hl60.out
    have hys60 : ys.length ≤ 60 := by
      have h1 := HI.out.len
      rw [List.length_take] at h1
      omega
    by_cases hlt : k < fl.length
    · have hFo := HF.out.below HI.out.b
      obtain ⟨gF, hAF, _⟩ := hFo.form (by omega)
      subst hAF
      obtain ⟨_, t0, _⟩ := hFo.cells hlt
      have Ht0 := Lib.hid t0
      have HE := Lib.hid (ses_next hlt)
      generalize (sesL (fl.map FT.x)).take k = pre at HI HE
      obtain ⟨x, hx⟩ : ∃ x : Int, (fl[k].x.s : Int) = x := ⟨_, rfl⟩
      rw [hx] at HE t0 Ht0
      clear hFo hx t0
      go_wp2_with fail
      go_loopw [6] (fun i wi => ∃ j : Nat, j ≤ ys.length ∧ i = .int .i64 j ∧ Hid (∀ i (hi : i < ys.length), i < j → ys[i] < x) ∧ Hid (Below wo.heap.size wo wi)) (fun i _ => ys.length - (intOf i).toNat)
      case atStart => exact ⟨0, Nat.zero_le _, rfl, Lib.hid (fun i _ h => by omega), Lib.hid (Below.refl _ _)⟩
      case round =>
        obtain ⟨j, hj, rfl, HJ, HW⟩ := hrel
        have hj60 : j ≤ 60 := by omega
        obtain ⟨wi, hwi⟩ : ∃ wi : World, wi = wr := ⟨_, rfl⟩
        subst hwi
        have HI2 := Lib.hid (HI.out.ab HW.out)
        have t0 := (HW.out.cell (p := ⟨gF, k * 11 + 1, none⟩) (World.block_lt_of_cell? _ _ Ht0.out)).trans Ht0.out
        have HW2 := Lib.hid (show Below wo.heap.size wo wi.drew from HW.out.drew)
        by_cases hjl : j < ys.length
        · obtain ⟨b, hA, _⟩ := HI2.out.row.form (by omega)
          subst hA
          have s0 := HI2.out.row.cell hjl
          have HR := Lib.hid (HI.out.ris)
          obtain ⟨y, hy⟩ : ∃ y : Int, ys[j] = y := ⟨_, rfl⟩
          have Hy := Lib.hid hy
          rw [hy] at s0
          clear hy
          go_wp2_with fail
          have p0 := fun w' (hk : KeepsBut [] wi.drew w') => hk.cell (p := ⟨b, j, none⟩) s0 (by simp)
          have p1 := fun w' (hk : KeepsBut [] wi.drew w') => hk.cell (p := ⟨gF, k * 11 + 1, none⟩) t0 (by simp)
          have S9 := Lib.hid (show wi.drew.cell? ⟨b, j, none⟩ = some (.int .u64 y) from s0)
          have T9 := Lib.hid (show wi.drew.cell? ⟨gF, k * 11 + 1, none⟩ = some (.int .u64 x) from t0)
          have HI9 := Lib.hid (HI2.out.ab (Below.refl _ _).drew)
          clear s0 t0 HI2
          by_cases hyx : y < x
          · skip
            refine wp_region_mix3 (KeepsBut []) (KeepsBut.refl []) (KeepsBut.trans []) [] [(0, 0), (0, 1), (0, 2), (0, 3), (0, 4), (0, 5), (0, 6), (0, 7), (0, 9), (0, 10), (0, 11), (0, 12), (1, 8), (1, 13), (0, 14), (0, 15)] (by kernel_rfl) (by kernel_rfl) (fun d _ _ _ _ h => by cases d <;> exact h) ?_
            generalize wi.drew = wd at HW2 p0 p1 S9 T9 HI9 ⊢
            repeat ((first | (refine mix3_free (v := ?_) rfl rfl ?_ (mix3_norm (a' := ?_) ?_ ?_); rotate_left; focus (intro w'; go_simp; first | done | (with_reducible rfl))) | (refine mix3_pure (v := ?_) rfl rfl ?_ (mix3_norm (a' := ?_) ?_ ?_); rotate_left; focus (intro w' hR; go_simp; first | done | (with_reducible rfl))) | refine mix3_freeOff rfl rfl (mix3_norm (a' := ?_) ?_ ?_) | refine mix3_off rfl rfl (mix3_norm (a' := ?_) ?_ ?_)); rotate_left; focus (simp only [Act.put, List.getElem_toArray, List.getElem_cons_zero, List.getElem_cons_succ, List.setIfInBounds_toArray, List.set_cons_zero, List.set_cons_succ]; rfl))
            refine mix3_done ?_
            go_wp2_with fail
            case roundEnd =>
              exact ⟨⟨j + 1, by omega, by push_cast; rfl, Lib.hid (fun i hi hij => by
                by_cases h : i = j
                · subst h; have := Hy.out; omega
                · exact HJ.out i hi (by omega)), HW2⟩, by simp only [intOf]; omega⟩
          · skip
            refine wp_region_mix3 (KeepsBut []) (KeepsBut.refl []) (KeepsBut.trans []) [] [(0, 0), (0, 1), (0, 2), (0, 3), (0, 4), (0, 5), (0, 6), (0, 7), (0, 9), (0, 10), (0, 11), (0, 12), (1, 8), (1, 13), (0, 14), (0, 15)] (by kernel_rfl) (by kernel_rfl) (fun d _ _ _ _ h => by cases d <;> exact h) ?_
            generalize wi.drew = wd at HW2 p0 p1 S9 T9 HI9 ⊢
            repeat ((first | (refine mix3_free (v := ?_) rfl rfl ?_ (mix3_norm (a' := ?_) ?_ ?_); rotate_left; focus (intro w'; go_simp; first | done | (with_reducible rfl))) | (refine mix3_pure (v := ?_) rfl rfl ?_ (mix3_norm (a' := ?_) ?_ ?_); rotate_left; focus (intro w' hR; go_simp; first | done | (with_reducible rfl))) | refine mix3_freeOff rfl rfl (mix3_norm (a' := ?_) ?_ ?_) | refine mix3_off rfl rfl (mix3_norm (a' := ?_) ?_ ?_)); rotate_left; focus (simp only [Act.put, List.getElem_toArray, List.getElem_cons_zero, List.getElem_cons_succ, List.setIfInBounds_toArray, List.set_cons_zero, List.set_cons_succ]; rfl))
            refine mix3_done ?_
            clear p0 p1
            have s0 := S9.out
            have t0 := T9.out
            go_wp2_with fail
            have p0 := fun w' (hk : KeepsBut [] wd.drew w') => hk.cell (p := ⟨b, j, none⟩) s0 (by simp)
            have p1 := fun w' (hk : KeepsBut [] wd.drew w') => hk.cell (p := ⟨gF, k * 11 + 1, none⟩) t0 (by simp)
            have T9 := Lib.hid (show wd.drew.cell? ⟨gF, k * 11 + 1, none⟩ = some (.int .u64 x) from t0)
            have HI9 := Lib.hid (HI9.out.ab (Below.refl _ _).drew)
            clear s0 t0 S9
            by_cases hyx2 : y = x
            · have hb : (y == x) = true := by rw [beq_iff_eq]; exact hyx2
              have HI8 := Lib.hid (show SesI w1 (pre ++ [x]) (some ⟨b, 0, none⟩) c ys wd.drew from by
                have h := HI9.out.same hjl
                rw [Hy.out, hyx2] at h
                exact h)
              clear hyx2
              refine wp_region_mix3 (KeepsBut []) (KeepsBut.refl []) (KeepsBut.trans []) [] [(0, 0), (0, 1), (0, 2), (0, 3), (0, 4), (0, 5), (0, 6), (0, 7), (0, 9), (0, 10), (0, 11), (0, 12), (1, 8), (1, 13), (0, 14), (0, 15)] (by kernel_rfl) (by kernel_rfl) (fun d _ _ _ _ h => by cases d <;> exact h) ?_
              generalize wd.drew = w3 at p0 p1 T9 HI8 ⊢
              repeat ((first | (refine mix3_free (v := ?_) rfl rfl ?_ (mix3_norm (a' := ?_) ?_ ?_); rotate_left; focus (intro w'; go_simp; first | done | (with_reducible rfl))) | (refine mix3_pure (v := ?_) rfl rfl ?_ (mix3_norm (a' := ?_) ?_ ?_); rotate_left; focus (intro w' hR; go_simp; first | done | (with_reducible rfl))) | refine mix3_freeOff rfl rfl (mix3_norm (a' := ?_) ?_ ?_) | refine mix3_off rfl rfl (mix3_norm (a' := ?_) ?_ ?_)); rotate_left; focus (simp only [Act.put, List.getElem_toArray, List.getElem_cons_zero, List.getElem_cons_succ, List.setIfInBounds_toArray, List.set_cons_zero, List.set_cons_succ]; rfl))
              refine mix3_done ?_
              clear p0 p1
              go_wp2_with fail
              case roundEnd =>
                exact ⟨⟨k + 1, by omega, by push_cast; rfl, some ⟨b, 0, none⟩, c, ys, rfl, Lib.hid (by rw [HE.out]; exact HI8.out)⟩, by simp only [intOf]; omega⟩
            · have hb : (y == x) = false := by rw [beq_eq_false_iff_ne]; exact hyx2
              have H2 := Lib.hid (show ∀ hj : j < ys.length, x < ys[j] from fun h => by have := Hy.out; omega)
              clear hyx2
              refine wp_region_mix3 (KeepsBut []) (KeepsBut.refl []) (KeepsBut.trans []) [] [(0, 0), (0, 1), (0, 2), (0, 3), (0, 4), (0, 5), (0, 6), (0, 7), (0, 9), (0, 10), (0, 11), (0, 12), (1, 8), (1, 13), (0, 14), (0, 15)] (by kernel_rfl) (by kernel_rfl) (fun d _ _ _ _ h => by cases d <;> exact h) ?_
              generalize wd.drew = w3 at p0 p1 T9 HI9 ⊢
              repeat ((first | (refine mix3_free (v := ?_) rfl rfl ?_ (mix3_norm (a' := ?_) ?_ ?_); rotate_left; focus (intro w'; go_simp; first | done | (with_reducible rfl))) | (refine mix3_pure (v := ?_) rfl rfl ?_ (mix3_norm (a' := ?_) ?_ ?_); rotate_left; focus (intro w' hR; go_simp; first | done | (with_reducible rfl))) | refine mix3_freeOff rfl rfl (mix3_norm (a' := ?_) ?_ ?_) | refine mix3_off rfl rfl (mix3_norm (a' := ?_) ?_ ?_)); rotate_left; focus (simp only [Act.put, List.getElem_toArray, List.getElem_cons_zero, List.getElem_cons_succ, List.setIfInBounds_toArray, List.set_cons_zero, List.set_cons_succ]; rfl))
              refine mix3_done ?_
              clear p0 p1
              obtain ⟨A, hA⟩ : ∃ A : Option Addr, A = some ⟨b, 0, none⟩ := ⟨_, rfl⟩
              rw [← hA] at HI9 HI ⊢
              clear hA hb hyx
              obtain ⟨s2, z1, z2, r1, z3⟩ := cuts_us w3 A c ys j hj HI9.out.row
              clear z2 z3 z1
              obtain ⟨q, hq⟩ : ∃ q, q = ys.take j := ⟨_, rfl⟩
              obtain ⟨r, hr⟩ : ∃ r, r = ys.drop j := ⟨_, rfl⟩
              have hql : q.length = j := by rw [hq, List.length_take]; omega
              have hrl : r.length = ys.length - j := by rw [hr, List.length_drop]
              rw [← hq] at r1
              have HQ := Lib.hid hq
              have HRr := Lib.hid hr
              have R1 := Lib.hid r1
              have Hql := Lib.hid hql
              have Hrl := Lib.hid hrl
              clear hq hr hql hrl r1
              go_wp2_with (at_builtin; refine wpList_append_us rfl (.tmp 50) (.tmp 53) rfl none 0 [] rfl (KRow.nil _) A c q j Hql.out rfl R1.out (by simp; omega) ?_)
              intro A4 c4 w4 hrow hchg hblk
              have hb4 : Below w3.heap.size w3 w4 := hchg.below (fun i _ e => by simp [blk] at e) (Nat.le_refl _)
              have HI4 := Lib.hid (HI9.out.ab hb4)
              have T4 := (hb4.cell (p := ⟨gF, k * 11 + 1, none⟩) (World.block_lt_of_cell? _ _ T9.out)).trans T9.out
              have HK4 := Lib.hid (show KRow w4 A4 c4 q from hrow)
              have HS43 := Lib.hid (show w3.heap.size ≤ w4.heap.size from hb4.size)
              have HG4 := Lib.hid (show ∀ k, blk A4 = some k → w3.heap.size ≤ k from fun k hk => by
                rcases hblk k hk with h | h
                · simp [blk] at h
                · omega)
              have HS4 := Lib.hid (show w1.heap.size ≤ w3.heap.size from HI9.out.b.size)
              have HAl := Lib.hid (show ∀ k, blk A = some k → k < w3.heap.size from fun k hk => HI9.out.row.lt hk)
              obtain ⟨hb5, hg5, hs5⟩ := alloc1 w4 #[.int .u64 x] 44
              have HI5 := Lib.hid (HI4.out.ab hb5)
              have HX5 := Lib.hid (And.intro (HK4.out.below hb5) (Reads.of_block (n := 1) (sz := 1) hg5 rfl))
              have HQ1 := Lib.hid (show q.length + 1 ≤ 100000 from by have := Hql.out; omega)
              have HQ2 := Lib.hid (show Value.slice A4 j c4 = .slice A4 q.length c4 by rw [Hql.out])
              clear hrow hchg hblk hb4 R1 s2 hb5 hg5 hs5 HI9 T9 HK4
              go_wp2_with (at_builtin; refine wpList_append_us rfl (.tmp 55) (.tmp 61) rfl A4 c4 q HQ2.out HX5.out.1 (some ⟨w4.heap.size, 0, none⟩) 1 [x] 1 rfl rfl HX5.out.2 HQ1.out ?_)
              intro A5 c5 w5 hrow hchg hblk
              have hI6 : Below w1.heap.size w1 w5 := HI5.out.b.trans (hchg.below (fun i hi e => by have := HG4.out i e; have := HS4.out; omega) HI5.out.b.size)
              have hR6 : KRow w5 A c ys := HI5.out.row.chg hchg (fun k hk e => by have := HG4.out k e; have := HAl.out k hk; omega)
              have HK6 := Lib.hid hrow
              have HG6 := Lib.hid (show ∀ k, blk A5 = some k → w3.heap.size ≤ k from fun k hk => by
                rcases hblk k hk with h | h
                · exact HG4.out k h
                · have h2 := HI5.out.b.size; have h3 := HI4.out.b.size; simp only [size_alloc] at h h2; have h4 := HS43.out; omega)
              obtain ⟨z1, A1, s3, z2, r2⟩ := cuts_us w5 A c ys j hj hR6
              clear z1 z2
              rw [← HRr.out] at r2
              have R2 := Lib.hid r2
              have HB6 := Lib.hid hI6
              obtain ⟨q2, hq2⟩ : ∃ q2, q2 = q ++ [x] := ⟨_, rfl⟩
              have hq2l : q2.length = q.length + 1 := by rw [hq2, List.length_append]; rfl
              have HK6 := HK6.out
              rw [← hq2] at HK6
              have HK6 := Lib.hid HK6
              have HQ3 := Lib.hid (show Value.slice A5 (q.length + 1) c5 = .slice A5 q2.length c5 by rw [hq2l])
              have HQ4 := Lib.hid (show q2.length + (ys.length - j) ≤ 100000 from by have := Hql.out; omega)
              have HQ5 := Lib.hid hq2
              clear hq2 hq2l
              clear hrow hchg hblk hI6 hR6 r2 HX5 T4 HQ1 HQ2
              go_wp2_with (at_builtin; refine wpList_append_us rfl (.tmp 63) (.tmp 66) rfl A5 c5 q2 HQ3.out HK6.out A1 (c - j) r (ys.length - j) Hrl.out rfl R2.out HQ4.out ?_)
              intro A6 c6 w6 hrow hchg hblk
              have hlen : q2.length + (ys.length - j) = (q2 ++ r).length := by rw [← Hrl.out]; exact (List.length_append ..).symm
              have HI7 := Lib.hid (show SesI w1 (pre ++ [x]) A6 c6 (q2 ++ r) w6 from by
                rw [HQ5.out, HQ.out, HRr.out]
                refine HI5.out.ins hj HJ.out H2.out (HB6.out.trans (hchg.below (fun i hi e => by have := HG6.out i e; have := HS4.out; omega) HB6.out.size)) (by rw [← HQ.out, ← HRr.out, ← HQ5.out]; exact hrow) (fun k hk => ?_)
                rcases hblk k hk with h | h
                · have := HG6.out k h; have := HS4.out; omega
                · have := HB6.out.size; omega)
              rw [hlen]
              generalize q2 ++ r = zs at HI7 ⊢
              clear hrow hchg hblk hlen s3
              go_wp2_with fail
              case roundEnd =>
                exact ⟨⟨k + 1, by omega, by push_cast; rfl, A6, c6, zs, rfl, Lib.hid (by rw [HE.out]; exact HI7.out)⟩, by simp only [intOf]; omega⟩
        · have hjj : j = ys.length := by omega
          have H2 := Lib.hid (show ∀ hj : j < ys.length, x < ys[j] from fun h => absurd h hjl)
          have T9 := Lib.hid (show wi.drew.drew.cell? ⟨gF, k * 11 + 1, none⟩ = some (.int .u64 x) from t0)
          have HI9 := Lib.hid ((HI2.out.ab (Below.refl _ _).drew).ab (Below.refl _ _).drew)
          have Hge := Lib.hid (show decide (j < ys.length) = false from decide_eq_false hjl)
          clear hjj hjl t0
          go_wp2_with fail
          refine wp_region_mix3 (KeepsBut []) (KeepsBut.refl []) (KeepsBut.trans []) [] [(0, 0), (0, 1), (0, 2), (0, 3), (0, 4), (0, 5), (0, 6), (0, 7), (0, 9), (0, 10), (0, 11), (0, 12), (1, 8), (1, 13), (0, 14), (0, 15)] (by kernel_rfl) (by kernel_rfl) (fun d _ _ _ _ h => by cases d <;> exact h) ?_
          have hge := Hge.out
          repeat ((first | (refine mix3_free (v := ?_) rfl rfl ?_ (mix3_norm (a' := ?_) ?_ ?_); rotate_left; focus (intro w'; go_simp; first | done | (with_reducible rfl))) | (refine mix3_pure (v := ?_) rfl rfl ?_ (mix3_norm (a' := ?_) ?_ ?_); rotate_left; focus (intro w' hR; go_simp; first | done | (with_reducible rfl))) | refine mix3_freeOff rfl rfl (mix3_norm (a' := ?_) ?_ ?_) | refine mix3_off rfl rfl (mix3_norm (a' := ?_) ?_ ?_)); rotate_left; focus (simp only [Act.put, List.getElem_toArray, List.getElem_cons_zero, List.getElem_cons_succ, List.setIfInBounds_toArray, List.set_cons_zero, List.set_cons_succ]; rfl))
          refine mix3_done ?_
          clear hge
          go_wp2_with fail
          refine wp_region_mix3 (KeepsBut []) (KeepsBut.refl []) (KeepsBut.trans []) [] [(0, 0), (0, 1), (0, 2), (0, 3), (0, 4), (0, 5), (0, 6), (0, 7), (0, 9), (0, 10), (0, 11), (0, 12), (1, 8), (1, 13), (0, 14), (0, 15)] (by kernel_rfl) (by kernel_rfl) (fun d _ _ _ _ h => by cases d <;> exact h) ?_
          generalize wi.drew.drew = w3 at T9 HI9 ⊢
          have hge := Hge.out
          repeat ((first | (refine mix3_free (v := ?_) rfl rfl ?_ (mix3_norm (a' := ?_) ?_ ?_); rotate_left; focus (intro w'; go_simp; first | done | (with_reducible rfl))) | (refine mix3_pure (v := ?_) rfl rfl ?_ (mix3_norm (a' := ?_) ?_ ?_); rotate_left; focus (intro w' hR; go_simp; first | done | (with_reducible rfl))) | refine mix3_freeOff rfl rfl (mix3_norm (a' := ?_) ?_ ?_) | refine mix3_off rfl rfl (mix3_norm (a' := ?_) ?_ ?_)); rotate_left; focus (simp only [Act.put, List.getElem_toArray, List.getElem_cons_zero, List.getElem_cons_succ, List.setIfInBounds_toArray, List.set_cons_zero, List.set_cons_succ]; rfl))
          refine mix3_done ?_
          clear hge Hge
          obtain ⟨s2, z1, z2, r1, z3⟩ := cuts_us w3 A c ys j hj HI9.out.row
          clear z2 z3 z1
          obtain ⟨q, hq⟩ : ∃ q, q = ys.take j := ⟨_, rfl⟩
          obtain ⟨r, hr⟩ : ∃ r, r = ys.drop j := ⟨_, rfl⟩
          have hql : q.length = j := by rw [hq, List.length_take]; omega
          have hrl : r.length = ys.length - j := by rw [hr, List.length_drop]
          rw [← hq] at r1
          have HQ := Lib.hid hq
          have HRr := Lib.hid hr
          have R1 := Lib.hid r1
          have Hql := Lib.hid hql
          have Hrl := Lib.hid hrl
          clear hq hr hql hrl r1
          go_wp2_with (at_builtin; refine wpList_append_us rfl (.tmp 50) (.tmp 53) rfl none 0 [] rfl (KRow.nil _) A c q j Hql.out rfl R1.out (by simp; omega) ?_)
          intro A4 c4 w4 hrow hchg hblk
          have hb4 : Below w3.heap.size w3 w4 := hchg.below (fun i _ e => by simp [blk] at e) (Nat.le_refl _)
          have HI4 := Lib.hid (HI9.out.ab hb4)
          have T4 := (hb4.cell (p := ⟨gF, k * 11 + 1, none⟩) (World.block_lt_of_cell? _ _ T9.out)).trans T9.out
          have HK4 := Lib.hid (show KRow w4 A4 c4 q from hrow)
          have HS43 := Lib.hid (show w3.heap.size ≤ w4.heap.size from hb4.size)
          have HG4 := Lib.hid (show ∀ k, blk A4 = some k → w3.heap.size ≤ k from fun k hk => by
            rcases hblk k hk with h | h
            · simp [blk] at h
            · omega)
          have HS4 := Lib.hid (show w1.heap.size ≤ w3.heap.size from HI9.out.b.size)
          have HAl := Lib.hid (show ∀ k, blk A = some k → k < w3.heap.size from fun k hk => HI9.out.row.lt hk)
          obtain ⟨hb5, hg5, hs5⟩ := alloc1 w4 #[.int .u64 x] 44
          have HI5 := Lib.hid (HI4.out.ab hb5)
          have HX5 := Lib.hid (And.intro (HK4.out.below hb5) (Reads.of_block (n := 1) (sz := 1) hg5 rfl))
          have HQ1 := Lib.hid (show q.length + 1 ≤ 100000 from by have := Hql.out; omega)
          have HQ2 := Lib.hid (show Value.slice A4 j c4 = .slice A4 q.length c4 by rw [Hql.out])
          clear hrow hchg hblk hb4 R1 s2 hb5 hg5 hs5 HI9 T9 HK4
          go_wp2_with (at_builtin; refine wpList_append_us rfl (.tmp 55) (.tmp 61) rfl A4 c4 q HQ2.out HX5.out.1 (some ⟨w4.heap.size, 0, none⟩) 1 [x] 1 rfl rfl HX5.out.2 HQ1.out ?_)
          intro A5 c5 w5 hrow hchg hblk
          have hI6 : Below w1.heap.size w1 w5 := HI5.out.b.trans (hchg.below (fun i hi e => by have := HG4.out i e; have := HS4.out; omega) HI5.out.b.size)
          have hR6 : KRow w5 A c ys := HI5.out.row.chg hchg (fun k hk e => by have := HG4.out k e; have := HAl.out k hk; omega)
          have HK6 := Lib.hid hrow
          have HG6 := Lib.hid (show ∀ k, blk A5 = some k → w3.heap.size ≤ k from fun k hk => by
            rcases hblk k hk with h | h
            · exact HG4.out k h
            · have h2 := HI5.out.b.size; have h3 := HI4.out.b.size; simp only [size_alloc] at h h2; have h4 := HS43.out; omega)
          obtain ⟨z1, A1, s3, z2, r2⟩ := cuts_us w5 A c ys j hj hR6
          clear z1 z2
          rw [← HRr.out] at r2
          have R2 := Lib.hid r2
          have HB6 := Lib.hid hI6
          obtain ⟨q2, hq2⟩ : ∃ q2, q2 = q ++ [x] := ⟨_, rfl⟩
          have hq2l : q2.length = q.length + 1 := by rw [hq2, List.length_append]; rfl
          have HK6 := HK6.out
          rw [← hq2] at HK6
          have HK6 := Lib.hid HK6
          have HQ3 := Lib.hid (show Value.slice A5 (q.length + 1) c5 = .slice A5 q2.length c5 by rw [hq2l])
          have HQ4 := Lib.hid (show q2.length + (ys.length - j) ≤ 100000 from by have := Hql.out; omega)
          have HQ5 := Lib.hid hq2
          clear hq2 hq2l
          clear hrow hchg hblk hI6 hR6 r2 HX5 T4 HQ1 HQ2
          go_wp2_with (at_builtin; refine wpList_append_us rfl (.tmp 63) (.tmp 66) rfl A5 c5 q2 HQ3.out HK6.out A1 (c - j) r (ys.length - j) Hrl.out rfl R2.out HQ4.out ?_)
          intro A6 c6 w6 hrow hchg hblk
          have hlen : q2.length + (ys.length - j) = (q2 ++ r).length := by rw [← Hrl.out]; exact (List.length_append ..).symm
          have HI7 := Lib.hid (show SesI w1 (pre ++ [x]) A6 c6 (q2 ++ r) w6 from by
            rw [HQ5.out, HQ.out, HRr.out]
            refine HI5.out.ins hj HJ.out H2.out (HB6.out.trans (hchg.below (fun i hi e => by have := HG6.out i e; have := HS4.out; omega) HB6.out.size)) (by rw [← HQ.out, ← HRr.out, ← HQ5.out]; exact hrow) (fun k hk => ?_)
            rcases hblk k hk with h | h
            · have := HG6.out k h; have := HS4.out; omega
            · have := HB6.out.size; omega)
          rw [hlen]
          generalize q2 ++ r = zs at HI7 ⊢
          clear hrow hchg hblk hlen s3
          go_wp2_with fail
          case roundEnd =>
            exact ⟨⟨k + 1, by omega, by push_cast; rfl, A6, c6, zs, rfl, Lib.hid (by rw [HE.out]; exact HI7.out)⟩, by simp only [intOf]; omega⟩
    · have hke : k = fl.length := by omega
      subst hke
      have HF9 := HI.out
      rw [List.take_of_length_le (by simp [sesL])] at HF9
      have HF9 := Lib.hid HF9
      clear HI
      go_wp2_with fail
      go_ret
      exact ⟨ys, A, c, HF9.out.ris, fun z => by rw [HF9.out.mem z, Hfl.out], rfl, HF9.out.row, fun k hk => Nat.le_trans Hb1.out.size (HF9.out.ge k hk), Hb1.out.trans (HF9.out.b.mono (B' := w.heap.size) Hb1.out.size)⟩
end Go.Proofs.Ytebcginnnjigjaa

end
section
/- The law: what is on a net (given what the sort does). -/
open Go.RowKit Go.Shelf
namespace Go.Proofs.Ytebcginnnjigjaa
theorem fields_cenR : ∃ f0 f1 f2 f3 : Field, (Try.prog.fieldsOf 32).toList = [f0, f1, f2, f3] ∧ f0.name ≠ "_" ∧ f1.name ≠ "_" ∧ f2.name ≠ "_" ∧ f3.name ≠ "_" ∧ f0.type = 29 ∧ f1.type = 30 ∧ f2.type = 3 ∧ f3.type = 3 ∧ f0.offset = 0 ∧ f1.offset = 2 ∧ f2.offset = 10 ∧ f3.offset = 11 := by
  simp only [Program.fieldsOf, Try.underlying32]
  exact ⟨_, _, _, _, rfl, by decide, by decide, by decide, by decide, rfl, rfl, rfl, rfl, rfl, rfl, rfl, rfl⟩
theorem eql_cenR (cv : List Int) (hl : cv.length = 12) (W : World) : (binOp .eql 32 (.agg (cvC cv)) (.agg (cvC cv))).run Try.prog W = .ok (.bool true) W := by
  obtain ⟨v0, v1, v2, v3, v4, v5, v6, v7, v8, v9, v10, v11, rfl⟩ := list12 hl
  rw [run_eql_struct, show (10000 : Nat) = 9999 + 1 from rfl, run_equalIn_struct W 9999 32 _ _ (by kernel_rfl) (by kernel_rfl)]
  obtain ⟨f0, f1, f2, f3, hf, n0, n1, n2, n3, t0, t1, t2, t3, o0, o1, o2, o3⟩ := fields_cenR
  rw [hf]
  have e2 : (part f0.type (cvC [v0, v1, v2, v3, v4, v5, v6, v7, v8, v9, v10, v11]) f0.offset).run Try.prog W = .ok (.agg #[.int .i64 v0, .int .i64 v1]) W := by
    rw [t0, o0]; exact run_part_arr (n := 2) (c := 2) Try.underlying29 (by kernel_rfl) (by kernel_rfl) _ 0
  have e8 : (part f1.type (cvC [v0, v1, v2, v3, v4, v5, v6, v7, v8, v9, v10, v11]) f1.offset).run Try.prog W = .ok (.agg #[.int .i64 v2, .int .i64 v3, .int .i64 v4, .int .i64 v5, .int .i64 v6, .int .i64 v7, .int .i64 v8, .int .i64 v9]) W := by
    rw [t1, o1]; exact run_part_arr (n := 8) (c := 8) Try.underlying30 (by kernel_rfl) (by kernel_rfl) _ 2
  have e10 : (part f2.type (cvC [v0, v1, v2, v3, v4, v5, v6, v7, v8, v9, v10, v11]) f2.offset).run Try.prog W = .ok (.int .i64 v10) W := by rw [t2, o2]; exact run_part_plain W (by kernel_rfl) rfl
  have e11 : (part f3.type (cvC [v0, v1, v2, v3, v4, v5, v6, v7, v8, v9, v10, v11]) f3.offset).run Try.prog W = .ok (.int .i64 v11) W := by rw [t3, o3]; exact run_part_plain W (by kernel_rfl) rfl
  have h := eqF_cons (d := 9999) n0 e2 e2 (r1 := true) (by
      rw [t0]; exact eqArr_same Try.underlying29 Try.underlying3 (by kernel_rfl) (by kernel_rfl) (by kernel_rfl) 9997 _ (fun i hi => by
        have : i = 0 ∨ i = 1 := by omega
        rcases this with rfl | rfl <;> exact ⟨_, rfl⟩))
    (eqF_cons n1 e8 e8 (r1 := true) (by
      rw [t1]; exact eqArr_same Try.underlying30 Try.underlying3 (by kernel_rfl) (by kernel_rfl) (by kernel_rfl) 9997 _ (fun i hi => by
        have : i = 0 ∨ i = 1 ∨ i = 2 ∨ i = 3 ∨ i = 4 ∨ i = 5 ∨ i = 6 ∨ i = 7 := by omega
        rcases this with rfl | rfl | rfl | rfl | rfl | rfl | rfl | rfl <;> exact ⟨_, rfl⟩))
    (eqF_cons n2 e10 e10 (by rw [t2]; exact run_equalIn_int W 9998 _ _ _ _ _ Try.underlying3)
    (eqF_cons n3 e11 e11 (by rw [t3]; exact run_equalIn_int W 9998 _ _ _ _ _ Try.underlying3) eqF_nil)))
  rw [h, Result.andThen_ok]
  simp
theorem fr_lists {ps : List (Int × ByteArray)} {x : Fr} (h : x ∈ framesL ps) : x.l.length ≤ 2000000 := by
  obtain ⟨p, _, hp⟩ := List.mem_filterMap.1 h
  unfold frameOf at hp
  split at hp
  · injection hp with hp
    subst hp
    have := (getX_sm (bl p.2)).2.2.1
    omega
  · cases hp
set_option maxHeartbeats 8000000 in
set_option maxRecDepth 100000 in
theorem censusOf_any (hsort : SortsTo 60) (A0 : Option Addr) (ls : List (Int × ByteArray)) (c0 : Nat) (w : World) (hr : Reads w 2 A0 ls.length (pks ls)) :
    Calls Try.prog 3 #[.slice A0 ls.length c0] w fun e w' => e = .returned (.bool true) ∧ Below w.heap.size w w' := by
  have HSo := Lib.hid hsort
  have HS := Lib.hid (shortP_any w A0 ls c0 hr)
  have Hr := Lib.hid hr
  clear hr hsort
  cases hsh : shortP ls with
  | false =>
    rw [hsh] at HS
    go_enter Try.func3, Try.ntmps3
    go_wp2_with fail
    refine HS.out.mono ?_
    rintro e w1 ⟨rfl, rfl⟩
    go_wp2_with fail
    refine (known45_any _).mono ?_
    rintro e w1 ⟨rfl, hb⟩
    go_wp2_with fail
    go_ret
    exact ⟨rfl, hb⟩
  | true =>
    have HL := Lib.hid (laid_any w A0 ls c0 Hr.out hsh)
    rw [hsh] at HS
    clear hsh
    go_enter Try.func3, Try.ntmps3
    go_wp2_with fail
    refine HS.out.mono ?_
    rintro e w1 ⟨rfl, rfl⟩
    go_wp2_with fail
    refine HL.out.mono ?_
    rintro e w2 ⟨g, A, c, g', A', c', σ, rfl, hinv, hD⟩
    obtain ⟨_, _, _, _, _, i6, i7⟩ := hinv
    have H6 := Lib.hid i6
    have H7 := Lib.hid i7
    have HD := Lib.hid hD
    have HO := Lib.hid (of_any w2 g A c σ hD.d.n i7 (by omega))
    clear HS HL hD i6 i7
    go_wp2_with fail
    refine HO.out.mono ?_
    rintro e w3 ⟨rfl, hb3⟩
    have HD3 := Lib.hid (HD.out.keep (Nat.le_refl _) hb3)
    have HO := Lib.hid (refOf_any w3 g' A' c' σ HD3.out.d.r H7.out H6.out)
    have heq := eql_cenR (ofL σ.ps) (ofL_len _)
    generalize ofL σ.ps = cv at HO heq ⊢
    clear HD hb3
    go_wp2_with fail
    refine HO.out.mono ?_
    rintro e w4 ⟨rfl, hb4⟩
    have HD4 := Lib.hid (HD3.out.keep (Nat.le_refl _) hb4)
    have HO := Lib.hid (frames_any w4 g A c σ HD4.out.d.n H7.out (by have := H6.out; omega))
    clear HD3 hb4
    go_wp2_with fail
    refine HO.out.mono ?_
    rintro e w5 ⟨AF, cF, fl, rfl, hfl, hF, _, hb5⟩
    have HD5 := Lib.hid (HD4.out.keep (Nat.le_refl _) hb5)
    have HFl := Lib.hid hfl
    have HF := Lib.hid hF
    have HO := Lib.hid (refFrames_any w5 g' A' c' σ HD5.out.d.r H7.out H6.out)
    clear HD4 hb5 hfl hF heq
    go_wp2_with fail
    refine HO.out.mono ?_
    rintro e w6 ⟨AG, cG, gl, rfl, hgl, hG, _, hb6⟩
    have HD6 := Lib.hid (HD5.out.keep (Nat.le_refl _) hb6)
    have HO := Lib.hid (sameFrames_any w6 AF AG cF cG fl gl (HF.out.below hb6) hG (HFl.out.trans hgl.symm) (fun t ht => fr_lists (ps := σ.ps) (by rw [← HFl.out]; exact List.mem_map_of_mem ht)) (by
      have h1 := congrArg List.length HFl.out
      rw [List.length_map] at h1
      have := framesL_len σ.ps
      have := H6.out
      omega))
    clear HD5 hb6 hgl hG
    go_wp2_with fail
    refine HO.out.mono ?_
    rintro e w7 ⟨rfl, hb7⟩
    have HD7 := Lib.hid (HD6.out.keep (Nat.le_refl _) hb7)
    have HO := Lib.hid (sessions_any 60 HSo.out w7 g A c σ HD7.out.d.n H7.out (by have := H6.out; omega) (fun ys h => by
      have h1 := h.2.2
      rw [sesL_len] at h1
      have := framesL_len σ.ps
      have := H6.out
      omega))
    clear HD6 hb7
    go_wp2_with fail
    refine HO.out.mono ?_
    rintro e w8 ⟨ss, A8, c8, hfin, hle, rfl, hK8, _, hb8⟩
    have HD8 := Lib.hid (HD7.out.keep (Nat.le_refl _) hb8)
    have HO := Lib.hid (refSessions_any w8 g' A' c' σ HD8.out.d.r H7.out H6.out)
    have HK8 := Lib.hid hK8
    have Hfin := Lib.hid (And.intro hfin hle)
    clear HD7 hb8 hfin hle hK8
    go_wp2_with fail
    refine HO.out.mono ?_
    rintro e w9 ⟨ys, A9, c9, hris, hmem, rfl, hK9, _, hb9⟩
    have HD9 := Lib.hid (HD8.out.keep (Nat.le_refl _) hb9)
    obtain rfl : ss = ys := ris_ext ss ys (ris_of Hfin.out.1.1 Hfin.out.2) hris (fun z => (Hfin.out.1.2.1 z).trans (hmem z).symm)
    have HO := Lib.hid (numbers_any w9 A8 A9 c8 c9 ss (HK8.out.below hb9) hK9 (by
      have h1 := Hfin.out.1.2.2
      rw [sesL_len] at h1
      have := framesL_len σ.ps
      have := H6.out
      omega))
    clear HD8 hb9 hK9 hris hmem
    go_wp2_with fail
    refine HO.out.mono ?_
    rintro e w10 ⟨rfl, hb10⟩
    have HD10 := Lib.hid (HD9.out.keep (Nat.le_refl _) hb10)
    clear HD9 hb10 HO
    go_wp2_with fail
    refine (known45_any _).mono ?_
    rintro e w11 ⟨rfl, hb11⟩
    have HD11 := Lib.hid (HD10.out.keep (Nat.le_refl _) hb11)
    clear HD10 hb11
    go_wp2_with fail
    go_ret
    exact ⟨rfl, HD11.out.b⟩
end Go.Proofs.Ytebcginnnjigjaa

end
