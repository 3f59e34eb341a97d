import Derived.Test.YtebcginnnjigjaaM35
import Derived.Test.YtebcginnnjigjaaM34
import Derived.Test.YtebcginnnjigjaaM20
import Derived.Lib.SlBytesConst
import Derived.Test.YtebcginnnjigjaaM33
section
/- The census' law: what must come of fixed calls, walked. -/
open Go.RowKit
namespace Go.Proofs.Ytebcginnnjigjaa
set_option maxHeartbeats 4000000 in
set_option maxRecDepth 100000 in
theorem known45_any (W : World) : Calls Try.prog 6 #[] W fun e w' => e = .returned (.bool true) ∧ Below W.heap.size W w' := by
  go_enter Try.func6, Try.ntmps6
  go_wp2_with fail
  refine (netNew_any W).mono ?_
  rintro e w1 ⟨rfl, hN1, hb1, -⟩
  generalize hgW : W.heap.size = g at hN1 hb1 ⊢
  have HB := Lib.hid (Nat.le_of_eq hgW.symm)
  have Hg := Lib.hid hgW
  clear hgW
  have HN := Lib.hid hN1
  have Hb := Lib.hid hb1
  clear hN1 hb1
  go_wp2_with fail
  refine (cens_put _).mono ?_
  rintro e w2 ⟨A1, c1, rfl, hO⟩
  have HS := Lib.hid (netSend_any w2 g none 0 Nt.none cn_ok.1 (HN.out.chg (F := fun _ => False) (.of_below hO.2.2) (fun _ _ f => f)) 1 A1 (putL fq) c1 hO.1.reads)
  have Hb := Lib.hid (Hb.out.trans (hO.2.2.mono (B' := g) (by have := HN.out.lt; omega)))
  rw [fq_len, cn1_is.1, cn1_is.2, show ((0 : Nat) : Int) = 0 from rfl] at HS
  clear hO HN
  go_wp2_with fail
  refine HS.out.mono ?_
  rintro e w3 ⟨rfl, hp⟩
  obtain ⟨A3, c3, hN, hb, hA⟩ := hp.next Hb.out HB.out (Nat.le_refl g) (by simp [blk])
  clear hp HS Hb
  have HN := Lib.hid hN
  have Hb := Lib.hid hb
  have HA := Lib.hid hA
  have hcv := Go.Lib.run_convert_bytes_const (P := Try.prog) w3 61 5 #[.int .u8 120] 1 1 Try.underlying61 Try.underlying5
  clear hN hb hA
  go_wp2_with fail
  obtain ⟨hb, hr⟩ : Below w3.heap.size w3 (w3.alloc (.cells #[.int .u8 120] 5 (1, 2))) ∧ Reads (w3.alloc (.cells #[.int .u8 120] 5 (1, 2))) 1 (some ⟨w3.heap.size, 0, none⟩) 1 (bv [120]) :=
    ⟨(Below.refl _ _).alloc (Nat.le_refl _) _, Reads.of_block (n := 1) (heap_alloc_new _ _) rfl⟩
  have hN := HN.out.chg (F := fun _ => False) (.of_below hb) (fun _ _ f => f)
  have hb := Hb.out.trans (hb.mono (B' := g) (by have := HN.out.lt; omega))
  clear hcv
  refine (netSend_any _ g A3 c3 cn1 cn_ok.2.1 hN 0 (some ⟨w3.heap.size, 0, none⟩) [120] 1 hr).mono ?_
  rintro e w4 ⟨rfl, hp⟩
  rw [cn2_is.1, show ((0 : Nat) : Int) = 0 from rfl]
  rw [cn2_is.2] at hp
  clear hN hr HN Hb
  obtain ⟨A4, c4, hN, hb, hA⟩ := hp.next hb HB.out (Nat.le_refl g) HA.out
  clear hp HA
  have HN := Lib.hid hN
  have Hb := Lib.hid hb
  have HA := Lib.hid hA
  have HO := Lib.hid (of_any w4 g A4 c4 cn2 hN cn2_pk (by decide))
  rw [cvC_cn2] at HO
  unfold cnC at HO
  clear hN hb hA
  go_wp2_with fail
  refine HO.out.mono ?_
  rintro e w5 ⟨rfl, hb5⟩
  obtain ⟨hb6, hg6, hs6⟩ := alloc1 w5 #[.int .i64 1, .int .i64 1, .int .i64 0, .int .i64 0, .int .i64 0, .int .i64 0, .int .i64 0, .int .i64 0, .int .i64 0, .int .i64 1, .int .i64 1, .int .i64 28] 33
  have HB6 := Lib.hid (show Below w4.heap.size w4 _ from hb5.trans (hb6.mono (B' := w4.heap.size) hb5.size))
  have HG := Lib.hid hg6
  have HLe := Lib.hid (show w4.heap.size ≤ w5.heap.size from hb5.size)
  clear HO hb5 hb6 hg6 hs6
  go_wp2_with fail
  generalize w5.alloc (.cells #[.int .i64 1, .int .i64 1, .int .i64 0, .int .i64 0, .int .i64 0, .int .i64 0, .int .i64 0, .int .i64 0, .int .i64 0, .int .i64 1, .int .i64 1, .int .i64 28] 33) = w6 at HB6 HG ⊢
  generalize w5.heap.size = gc at HG HLe ⊢
  have HN6 := Lib.hid (HN.out.chg (F := fun _ => False) (.of_below HB6.out) (fun _ _ f => f))
  have HSe := Lib.hid (sessions_any 1 sortsTo_one w6 g A4 c4 cn2 HN6.out cn2_pk (by decide) (fun ys h => by rw [ses_cn2] at h; rw [fin_one h]; exact Nat.le_refl _))
  refine HSe.out.mono ?_
  rintro e w7 ⟨ss, A7, c7, hfin, -, rfl, hK, hA7, hb7⟩
  rw [ses_cn2] at hfin
  obtain rfl := fin_one hfin
  have hN7 := HN6.out.chg (F := fun _ => False) (.of_below hb7) (fun _ _ f => f)
  have HC := Lib.hid (clean_any w7 g A4 c4 cn2 hN7 cn2_pk (by decide) (by decide) (by decide) (by decide) 3)
  rw [clean_cn2.1] at HC
  have HF4 := Lib.hid (fun i hi => HN.out.foot i hi)
  have HG7 := Lib.hid ((hb7.block gc (Array.getElem?_eq_some_iff.1 HG.out).1).trans HG.out)
  have Hb7 := Lib.hid ((Hb.out.trans (HB6.out.mono (B' := g) (by have := HN.out.lt; omega))).trans (hb7.mono (B' := g) (by have := HN6.out.lt; omega)))
  have HK := Lib.hid hK
  have HA7 := Lib.hid hA7
  have HL6 := Lib.hid HB6.out.size
  have HA4 := HA
  clear hN7 hK hA7 hb7 hfin HSe HG HN6 HN HB6 Hb
  go_wp2_with fail
  refine HC.out.mono ?_
  rintro e w8 ⟨rfl, hp⟩
  have hC8 := hp.choose_spec.choose_spec.2.2
  have hG8 := (hC8.block gc (Array.getElem?_eq_some_iff.1 HG7.out).1 (fun hf => by have := HF4.out gc hf; have := HLe.out; omega)).trans HG7.out
  have hK8 := HK.out.chg hC8 (fun k hk hf => by have := HF4.out k hf; have := HA7.out k hk; have := HL6.out; omega)
  obtain ⟨ad, rfl, hc⟩ := hK8.reads.2 (by simp)
  have hc0 : w8.cell? ad = some (.int .u64 3) := by
    have h := hc 0 (.int .u64 3) rfl
    simpa [Addr.add] using h
  obtain ⟨A8, c8, hN8, hb8, hA8⟩ := hp.next Hb7.out HB.out (Nat.le_refl g) HA4.out
  have HLn := Lib.hid (netLen_any w8 g A8 c8 _ hN8)
  rw [clean_cn2.2] at HLn
  have Hb8 := Lib.hid hb8
  obtain ⟨d0, d1, d2, d3, d4, d5, d6, d7, d8, d9, d10, d11⟩ := cells12 hG8
  have q2 := eql_two
  have q3 := eql_cen
  unfold cen0 at q3
  clear hp hC8 hK8 hc hN8 hb8 hA8 HC
  go_wp2_with fail
  refine HLn.out.mono ?_
  rintro e w9 ⟨rfl, rfl⟩
  rw [show ((1 : Nat) : Int) = 1 from rfl]
  have HNil := Lib.hid (of_nil w8)
  rw [show cvC (ofL []) = cen0 from rfl] at HNil
  unfold cen0 at HNil
  clear d0 d1 d2 d3 d4 d5 d6 d7 d8 d9 d10 d11 hc0
  go_wp2_with fail
  refine HNil.out.mono ?_
  rintro e w9 ⟨rfl, hb9⟩
  have Hb9 := Lib.hid (Hb8.out.trans (hb9.mono (B' := g) (Nat.le_trans HB.out Hb8.out.size)))
  clear hb9 HNil HLn
  go_wp2_with fail
  go_ret
  exact ⟨rfl, Hg.out ▸ Hb9.out⟩
end Go.Proofs.Ytebcginnnjigjaa

end
section
/- The law: what is lost when but one session's frames are to be left. -/
open Go.RowKit
namespace Go.Proofs.Ytebcginnnjigjaa

theorem keepB_true {z : Int} {p : Int × ByteArray} (h : keepB z p = true) : getE (bl p.2) = 0 ∧ ((getX (bl p.2)).s : Int) = z := by
  unfold keepB at h
  rw [Bool.and_eq_true] at h
  exact ⟨of_decide_eq_true h.1, of_decide_eq_true h.2⟩
theorem clean_keeps (z : Int) (σ : Nt) (k : Nat) (hk : k < (cleanN z σ).ps.length) : keepB z (cleanN z σ).ps[k] = true := by
  have h : (cleanN z σ).ps[k] ∈ σ.ps.filter (keepB z) := List.getElem_mem hk
  exact (List.mem_filter.1 h).2
theorem clean_pk {z : Int} {σ : Nt} (h : PkOk σ.ps) : PkOk (cleanN z σ).ps := fun p hp => h p (List.mem_filter.1 hp).1
set_option maxHeartbeats 8000000 in
set_option maxRecDepth 100000 in
theorem censusCleans_any (A0 : Option Addr) (ls : List (Int × ByteArray)) (c0 : Nat) (z : Int) (w : World) (hr : Reads w 2 A0 ls.length (pks ls)) :
    Calls Try.prog 4 #[.slice A0 ls.length c0, .int .u64 z] w fun e w' => e = .returned (.bool true) ∧ Below w.heap.size w w' := by
  have HS := Lib.hid (shortP_any w A0 ls c0 hr)
  have Hr := Lib.hid hr
  clear hr
  cases hsh : shortP ls with
  | false =>
    rw [hsh] at HS
    go_enter Try.func4, Try.ntmps4
    go_wp2_with fail
    refine HS.out.mono ?_
    rintro e w1 ⟨rfl, rfl⟩
    go_wp2_with fail
    refine (known45_any _).mono ?_
    rintro e w1 ⟨rfl, hb⟩
    go_wp2_with fail
    go_ret
    exact ⟨rfl, hb⟩
  | true =>
    have HL := Lib.hid (laid_any w A0 ls c0 Hr.out hsh)
    rw [hsh] at HS
    clear hsh
    go_enter Try.func4, Try.ntmps4
    go_wp2_with fail
    refine HS.out.mono ?_
    rintro e w1 ⟨rfl, rfl⟩
    go_wp2_with fail
    refine HL.out.mono ?_
    rintro e w2 ⟨g, A, c, g', A', c', σ, rfl, hinv, hD⟩
    have Hinv := Lib.hid hinv
    have HD := Lib.hid hD
    clear HS HL hinv hD
    go_wp2_with fail
    refine wp_region_mix3 (KeepsBut []) (KeepsBut.refl []) (KeepsBut.trans []) [2, 5] [(0, 0), (0, 1), (0, 3), (0, 4), (2, 2), (2, 5), (0, 6), (0, 7), (0, 8), (0, 10), (0, 11), (0, 12), (1, 13), (0, 14), (2, 9), (0, 15), (0, 16)] (by kernel_rfl) (by kernel_rfl) (fun d _ _ _ _ h => by cases d <;> exact h) ?_
    repeat (first
      | (refine mix3_free (v := ?_) rfl rfl ?_ (mix3_norm (a' := ?_) ?_ ?_)
         rotate_left
         focus (intro w'; go_simp; first | done | (with_reducible rfl))
         rotate_left
         focus (simp only [Act.put, List.getElem_toArray, List.getElem_cons_zero, List.getElem_cons_succ, List.setIfInBounds_toArray, List.set_cons_zero, List.set_cons_succ]; rfl))
      | (refine mix3_pure (v := ?_) rfl rfl ?_ (mix3_norm (a' := ?_) ?_ ?_)
         rotate_left
         focus (intro w' hR; go_simp; first | done | (with_reducible rfl))
         rotate_left
         focus (simp only [Act.put, List.getElem_toArray, List.getElem_cons_zero, List.getElem_cons_succ, List.setIfInBounds_toArray, List.set_cons_zero, List.set_cons_succ]; rfl))
      | (refine mix3_freeOff rfl rfl (mix3_norm (a' := ?_) ?_ ?_)
         rotate_left
         focus (simp only [Act.put, List.getElem_toArray, List.getElem_cons_zero, List.getElem_cons_succ, List.setIfInBounds_toArray, List.set_cons_zero, List.set_cons_succ]; rfl))
      | (refine mix3_off rfl rfl (mix3_norm (a' := ?_) ?_ ?_)
         rotate_left
         focus (simp only [Act.put, List.getElem_toArray, List.getElem_cons_zero, List.getElem_cons_succ, List.setIfInBounds_toArray, List.set_cons_zero, List.set_cons_succ]; rfl)))
    have HD2 := Lib.hid (HD.out.keep (Nat.le_refl _) ((Below.refl w2.heap.size w2).drew))
    clear HD
    generalize w2.drew = w3 at HD2 ⊢
    obtain ⟨i1, i2, i3, i4, i5, i6, i7⟩ := Hinv.out
    have HC := Lib.hid (clean_any w3 g A c σ HD2.out.d.n i7 ⟨i1, by omega⟩ ⟨by omega, by omega⟩ ⟨i4, by omega⟩ i6 z)
    refine mix3_eff rfl ?_
    simp only [List.getElem_toArray, List.getElem_cons_zero, List.getElem_cons_succ]
    go_wp2_with fail
    refine HC.out.mono ?_
    rintro e w4 ⟨rfl, hp⟩
    obtain ⟨A4, c4, hD4, n4, C4⟩ := HD2.out.d.onN hp
    go_wp2_with fail
    refine mixQ3_last (by simp) rfl ?_
    have HR := Lib.hid (refClean_any w4 g' A' c' σ hD4.r i7 ⟨i1, by omega⟩ ⟨by omega, by omega⟩ ⟨i4, by omega⟩ i6 z)
    have HD4 := Lib.hid hD4
    have HN4 := Lib.hid n4
    have HC4 := Lib.hid C4
    clear hp hD4 n4 C4 HC i1 i2 i3 i4 i5
    refine mix3_eff rfl ?_
    simp only [List.getElem_toArray, List.getElem_cons_zero, List.getElem_cons_succ]
    go_wp2_with fail
    refine HR.out.mono ?_
    rintro e w5 ⟨rfl, hp⟩
    obtain ⟨A5, c5, hD5, n5, C5⟩ := HD4.out.onR hp
    obtain ⟨Ax, cx, Ay, cy, hfin⟩ := HD2.out.next (Nat.le_refl _) (duo_both hD5 HN4.out HC4.out (Below.refl _ _) n5 C5)
    have HF := Lib.hid hfin
    have HT := Lib.hid (clean_keeps z σ)
    have HPk := Lib.hid (clean_pk (z := z) i7)
    have hT60 : (cleanN z σ).ps.length ≤ 60 := Nat.le_trans (List.length_filter_le _ _) i6
    obtain ⟨⟨q0, _, _, _⟩, _⟩ := hfin.d.r.cells
    generalize gone z σ.ps = G
    generalize cleanN z σ = τ at HF HT HPk q0 hT60
    have p0 := fun w' (hk : KeepsBut [] w5 w') => hk.cell (p := ⟨g', 0, none⟩) q0 (by simp)
    have HLn := Lib.hid (netLen_any w5 g Ax cx τ HF.out.d.n)
    clear hp hD5 n5 C5 hfin HR HD4 HN4 HC4 HD2 i6 i7 q0
    go_wp2_with fail
    refine mixQ3_last (by simp) rfl ?_
    repeat (first
      | (refine mix3_free (v := ?_) rfl rfl ?_ (mix3_norm (a' := ?_) ?_ ?_)
         rotate_left
         focus (intro w'; go_simp; first | done | (with_reducible rfl))
         rotate_left
         focus (simp only [Act.put, List.getElem_toArray, List.getElem_cons_zero, List.getElem_cons_succ, List.setIfInBounds_toArray, List.set_cons_zero, List.set_cons_succ]; rfl))
      | (refine mix3_pure (v := ?_) rfl rfl ?_ (mix3_norm (a' := ?_) ?_ ?_)
         rotate_left
         focus (intro w' hR; go_simp; first | done | (with_reducible rfl))
         rotate_left
         focus (simp only [Act.put, List.getElem_toArray, List.getElem_cons_zero, List.getElem_cons_succ, List.setIfInBounds_toArray, List.set_cons_zero, List.set_cons_succ]; rfl))
      | (refine mix3_freeOff rfl rfl (mix3_norm (a' := ?_) ?_ ?_)
         rotate_left
         focus (simp only [Act.put, List.getElem_toArray, List.getElem_cons_zero, List.getElem_cons_succ, List.setIfInBounds_toArray, List.set_cons_zero, List.set_cons_succ]; rfl))
      | (refine mix3_off rfl rfl (mix3_norm (a' := ?_) ?_ ?_)
         rotate_left
         focus (simp only [Act.put, List.getElem_toArray, List.getElem_cons_zero, List.getElem_cons_succ, List.setIfInBounds_toArray, List.set_cons_zero, List.set_cons_succ]; rfl)))
    clear p0
    refine mix3_eff rfl ?_
    simp only [List.getElem_toArray, List.getElem_cons_zero, List.getElem_cons_succ]
    go_wp2_with fail
    refine HLn.out.mono ?_
    rintro e w6 ⟨rfl, rfl⟩
    go_wp2_with fail
    refine mixQ3_normal (KeepsBut.refl _ _) rfl ?_
    repeat (first
      | (refine mix3_free (v := ?_) rfl rfl ?_ (mix3_norm (a' := ?_) ?_ ?_)
         rotate_left
         focus (intro w'; go_simp; first | done | (with_reducible rfl))
         rotate_left
         focus (simp only [Act.put, List.getElem_toArray, List.getElem_cons_zero, List.getElem_cons_succ, List.setIfInBounds_toArray, List.set_cons_zero, List.set_cons_succ]; rfl))
      | (refine mix3_pure (v := ?_) rfl rfl ?_ (mix3_norm (a' := ?_) ?_ ?_)
         rotate_left
         focus (intro w' hR; go_simp; first | done | (with_reducible rfl))
         rotate_left
         focus (simp only [Act.put, List.getElem_toArray, List.getElem_cons_zero, List.getElem_cons_succ, List.setIfInBounds_toArray, List.set_cons_zero, List.set_cons_succ]; rfl))
      | (refine mix3_freeOff rfl rfl (mix3_norm (a' := ?_) ?_ ?_)
         rotate_left
         focus (simp only [Act.put, List.getElem_toArray, List.getElem_cons_zero, List.getElem_cons_succ, List.setIfInBounds_toArray, List.set_cons_zero, List.set_cons_succ]; rfl))
      | (refine mix3_off rfl rfl (mix3_norm (a' := ?_) ?_ ?_)
         rotate_left
         focus (simp only [Act.put, List.getElem_toArray, List.getElem_cons_zero, List.getElem_cons_succ, List.setIfInBounds_toArray, List.set_cons_zero, List.set_cons_succ]; rfl)))
    refine mix3_done ?_
    clear HLn
    go_wp2_with fail
    go_loopw [7] (fun i wr => ∃ k : Nat, k ≤ τ.ps.length ∧ i = .int .i64 k ∧ Hid (DuoC w.heap.size w wr g Ax cx g' Ay cy τ)) (fun i _ => τ.ps.length - (intOf i).toNat)
    case atStart => exact ⟨0, Nat.zero_le _, rfl, HF⟩
    case round =>
      clear HF
      obtain ⟨k, hk, rfl, HD⟩ := hrel
      obtain ⟨⟨q0, q1, q2, q3⟩, _⟩ := HD.out.d.r.cells
      by_cases hlt : k < τ.ps.length
      · have hkt := keepB_true (HT.out k hlt)
        have HSz := Lib.hid (HPk.out τ.ps[k] (List.getElem_mem hlt)).2
        obtain ⟨b, hAy, _⟩ := HD.out.d.r.2.1.form (by omega)
        subst hAy
        obtain ⟨r0, r1, _, _⟩ := HD.out.d.r.2.1.cell k hlt
        have HAt := Lib.hid (netAt_any wr g Ax cx τ HD.out.d.n (k : Int))
        rw [pAt_in hlt, hasE_in (show inN τ (k : Int) by unfold inN; omega)] at HAt
        generalize τ.ps[k] = p at hkt HSz r0 r1 HAt
        obtain ⟨x, s⟩ := p
        simp only at hkt r0 r1
        obtain ⟨hk0, hkz⟩ := hkt
        rw [show ((0 : Nat) : Int) = 0 from rfl] at HAt
        have hRow := Lib.hid (show ∀ W, Below wr.heap.size wr W → W.cell? ⟨g', 0, none⟩ = some (.slice (some ⟨b, 0, none⟩) τ.ps.length cy) ∧ W.cell? ⟨b, k * 2, none⟩ = some (.int .i64 x) ∧ W.cell? ⟨b, k * 2 + 1, none⟩ = some (.string s) from fun W hW =>
          ⟨(hW.cell (p := ⟨g', 0, none⟩) (World.block_lt_of_cell? _ _ q0)).trans q0, (hW.cell (p := ⟨b, k * 2, none⟩) (World.block_lt_of_cell? _ _ r0)).trans r0, (hW.cell (p := ⟨b, k * 2 + 1, none⟩) (World.block_lt_of_cell? _ _ r1)).trans r1⟩)
        clear q1 q2 q3 r0 r1
        go_wp2_with fail
        refine HAt.out.mono ?_
        rintro e w7 ⟨rfl, hb7⟩
        obtain ⟨hb8, hg8, hs8⟩ := alloc1 w7 #[.int .i64 x, .string s] 51
        have HB8 := Lib.hid (show Below wr.heap.size wr _ from hb7.trans (hb8.mono (B' := wr.heap.size) hb7.size))
        obtain ⟨b0, b1, _, _⟩ := cells2 hg8
        have HG8 := Lib.hid hg8
        clear HAt hb7 hb8 hg8 hs8 q0
        go_wp2_with (refine wpList_bytes_of rfl (.tmp 58) rfl s rfl ?_)
        intro A3 c3 W3 hr hc hb3
        have HG := Lib.hid (frGet_any W3 A3 c3 (bl s) hr (by rw [bl_length]; exact hc) (by rw [bl_length]; have : s.size ≤ 100000 := HSz.out; omega))
        rw [hk0] at HG
        have hb8s := HB8.out.size
        have HB3 := Lib.hid (HB8.out.trans (hb3.mono (B' := wr.heap.size) (by simpa only [size_alloc] using hb8s)))
        have HG3 := Lib.hid ((hb3.block _ (Nat.lt_succ_self _)).trans HG8.out)
        generalize w7.heap.size = gp at HG3 ⊢
        generalize getX (bl s) = y at HG hkz
        have HKz := Lib.hid hkz
        clear hkz
        unfold Fr.cells at HG
        clear hr hc hb3 b0 b1 HB8 HG8 hb8s hk0
        go_wp2_with fail
        refine HG.out.mono ?_
        rintro e W4 ⟨A4, c4, rfl, ho⟩
        have hb4 := ho.2.2
        obtain ⟨hb5, hg5, hs5⟩ := alloc1 W4 #[.int .i64 y.k, .int .u64 (y.s : Int), .int .u64 (y.e : Int), .int .u32 (y.q : Int), .int .u32 (y.v : Int), .int .i64 y.n, .int .i64 y.f, .int .i64 y.i, .int .i64 y.c, .string y.d, .slice A4 y.l.length c4] 58
        obtain ⟨_, d1, _⟩ := cells11 hg5
        have hG5 := (hb5.block gp (Array.getElem?_eq_some_iff.1 ((hb4.block gp (Array.getElem?_eq_some_iff.1 HG3.out).1).trans HG3.out)).1).trans ((hb4.block gp (Array.getElem?_eq_some_iff.1 HG3.out).1).trans HG3.out)
        obtain ⟨e0, e1, _, _⟩ := cells2 hG5
        have HB5 := Lib.hid ((HB3.out.trans (hb4.mono (B' := wr.heap.size) HB3.out.size)).trans (hb5.mono (B' := wr.heap.size) (Nat.le_trans HB3.out.size hb4.size)))
        obtain ⟨f0, f1, f2⟩ := hRow.out _ HB5.out
        clear ho hb4 hb5 hg5 hs5 HG HB3 hG5 HG3 hRow
        rw [show ((0 : Nat) : Int) = 0 from rfl]
        go_wp2_with fail
        generalize W4.alloc (.cells #[.int .i64 y.k, .int .u64 (y.s : Int), .int .u64 (y.e : Int), .int .u32 (y.q : Int), .int .u32 (y.v : Int), .int .i64 y.n, .int .i64 y.f, .int .i64 y.i, .int .i64 y.c, .string y.d, .slice A4 y.l.length c4] 58) = W5 at d1 e0 e1 HB5 f0 f1 f2 ⊢
        generalize W4.heap.size = gf at d1 ⊢
        have t0 := fun w' (hk : KeepsBut [] W5.drew w') => hk.cell (p := ⟨gp, 0, none⟩) e0 (by simp)
        have t1 := fun w' (hk : KeepsBut [] W5.drew w') => hk.cell (p := ⟨gp, 1, none⟩) e1 (by simp)
        have t2 := fun w' (hk : KeepsBut [] W5.drew w') => hk.cell (p := ⟨g', 0, none⟩) f0 (by simp)
        have t3 := fun w' (hk : KeepsBut [] W5.drew w') => hk.cell (p := ⟨b, k * 2, none⟩) f1 (by simp)
        have t4 := fun w' (hk : KeepsBut [] W5.drew w') => hk.cell (p := ⟨b, k * 2 + 1, none⟩) f2 (by simp)
        have t5 := fun w' (hk : KeepsBut [] W5.drew w') => hk.cell (p := ⟨gf, 1, none⟩) d1 (by simp)
        have hne : ∀ W, (binOp .neq 51 (.agg #[.int .i64 x, .string s]) (.agg #[.int .i64 x, .string s])).run Try.prog W = .ok (.bool false) W := fun W => by rw [neq_pk]; simp [beq_toListBytes]
        have hzz : ((y.s : Int) != z) = false := by rw [bne_eq_false_iff_eq]; exact HKz.out
        have HD5 := Lib.hid ((HD.out.keep (Nat.le_refl _) HB5.out).keep (Nat.le_refl _) ((Below.refl W5.heap.size W5).drew))
        clear e0 e1 f0 f1 f2 d1
        refine wp_region_mix3 (KeepsBut []) (KeepsBut.refl []) (KeepsBut.trans []) [] [(0, 1), (0, 2), (0, 3), (0, 5), (1, 0), (1, 4), (0, 6), (1, 7), (0, 8), (0, 9), (0, 10), (0, 11), (0, 12), (0, 13), (0, 14), (0, 16), (1, 15), (0, 17), (0, 18)] (by kernel_rfl) (by kernel_rfl) (fun d _ _ _ _ h => by cases d <;> exact h) ?_
        generalize W5.drew = W6 at t0 t1 t2 t3 t4 t5 HD5 ⊢
        repeat (first
          | (refine mix3_free (v := ?_) rfl rfl ?_ (mix3_norm (a' := ?_) ?_ ?_)
             rotate_left
             focus (intro w'; go_simp; first | done | (with_reducible rfl))
             rotate_left
             focus (simp only [Act.put, List.getElem_toArray, List.getElem_cons_zero, List.getElem_cons_succ, List.setIfInBounds_toArray, List.set_cons_zero, List.set_cons_succ]; rfl))
          | (refine mix3_pure (v := ?_) rfl rfl ?_ (mix3_norm (a' := ?_) ?_ ?_)
             rotate_left
             focus (intro w' hR; go_simp; first | done | (with_reducible rfl))
             rotate_left
             focus (simp only [Act.put, List.getElem_toArray, List.getElem_cons_zero, List.getElem_cons_succ, List.setIfInBounds_toArray, List.set_cons_zero, List.set_cons_succ]; rfl))
          | (refine mix3_freeOff rfl rfl (mix3_norm (a' := ?_) ?_ ?_)
             rotate_left
             focus (simp only [Act.put, List.getElem_toArray, List.getElem_cons_zero, List.getElem_cons_succ, List.setIfInBounds_toArray, List.set_cons_zero, List.set_cons_succ]; rfl))
          | (refine mix3_off rfl rfl (mix3_norm (a' := ?_) ?_ ?_)
             rotate_left
             focus (simp only [Act.put, List.getElem_toArray, List.getElem_cons_zero, List.getElem_cons_succ, List.setIfInBounds_toArray, List.set_cons_zero, List.set_cons_succ]; rfl)))
        clear t0 t1 t2 t3 t4 t5
        refine mix3_done ?_
        go_wp2_with fail
        case roundEnd =>
          exact ⟨⟨k + 1, by omega, by push_cast; rfl, HD5⟩, by simp only [intOf]; omega⟩
      · have hke : k = τ.ps.length := by omega
        subst hke
        have HCt := Lib.hid (netCounts_any wr g Ax cx τ HD.out.d.n)
        clear hk hlt q1 q2 q3
        go_wp2_with fail
        refine HCt.out.mono ?_
        rintro e w7 ⟨rfl, hb7⟩
        have HD7 := Lib.hid (HD.out.keep (Nat.le_refl _) hb7)
        obtain ⟨⟨_, q1, q2, q3⟩, _⟩ := HD7.out.d.r.cells
        clear HD HCt hb7 q0
        go_wp2_with fail
        clear q1 q2 q3
        refine (known45_any _).mono ?_
        rintro e w8 ⟨rfl, hb8⟩
        have HD8 := Lib.hid (HD7.out.keep (Nat.le_refl _) hb8)
        clear HD7 hb8
        go_wp2_with fail
        go_ret
        exact ⟨rfl, HD8.out.b⟩
end Go.Proofs.Ytebcginnnjigjaa

end
