/- The law on pasts that are played with. -/
import Derived.Test.YtiolfnnkkflaiaaPast11
import Derived.Test.YtiolfnnkkflaiaaPActs
import Derived.Test.YtiolfnnkkflaiaaLaw26L
open Go.RowKit
namespace Go.Proofs.Ytiolfnnkkflaiaa

/-- A past of the program's and one of the document's, that hold the same, in blocks that are new; the block x lies apart. -/
def TwoX (B0 : Nat) (w0 w : World) (g g' : Nat) (σ τ : Ps) (x : Nat) : Prop := ∃ F F', PastP w g F σ ∧ RefP w g' F' τ ∧ (∀ i, F i → ¬ F' i) ∧ (∀ i, F i → B0 ≤ i) ∧ (∀ i, F' i → B0 ≤ i) ∧ Below B0 w0 w ∧ B0 ≤ w.heap.size ∧ ¬ F x ∧ ¬ F' x
section
variable {B0 : Nat} {w0 w w1 : World} {g g' x : Nat} {σ σ1 τ τ1 : Ps}
theorem TwoX.b (h : TwoX B0 w0 w g g' σ τ x) : Below B0 w0 w := h.choose_spec.choose_spec.2.2.2.2.2.1
theorem TwoX.le (h : TwoX B0 w0 w g g' σ τ x) : B0 ≤ w.heap.size := h.choose_spec.choose_spec.2.2.2.2.2.2.1
theorem TwoX.below (h : TwoX B0 w0 w g g' σ τ x) (hb1 : Below w.heap.size w w1) : TwoX B0 w0 w1 g g' σ τ x := by
  obtain ⟨F, F', h1, h2, hd, hF, hF', hb, hB, hx⟩ := h
  exact ⟨F, F', h1.below hb1, h2.below hb1, hd, hF, hF', hb.trans (hb1.mono hB), Nat.le_trans hB hb1.size, hx⟩
theorem TwoX.other (h : TwoX B0 w0 w g g' σ τ x) {y : Nat} (hy : w.heap.size ≤ y) : TwoX B0 w0 w g g' σ τ y := by
  obtain ⟨F, F', h1, h2, hd, hF, hF', hb, hB, hx⟩ := h
  exact ⟨F, F', h1, h2, hd, hF, hF', hb, hB, fun hf => by have := h1.foot y hf; omega, fun hf => by have := h2.foot y hf; omega⟩
theorem keepX {x : Nat} {F : Nat → Prop} (hc : Chg F w w1) (hx : ¬ F x) : KeepQ (fun i => i ≠ x) w w1 :=
  ⟨hc.size, fun k hk hne => by
    have : k = x := Classical.not_not.1 hne
    exact hc.block k hk (this ▸ hx)⟩
theorem TwoX.p (h : TwoX B0 w0 w g g' σ τ x) (hx : x < w.heap.size) : ∃ F, PastP w g F σ ∧ (∀ i, F i → B0 ≤ i) ∧ ∀ w1 σ1, PastPost w g F σ1 w1 → TwoX B0 w0 w1 g g' σ1 τ x ∧ KeepQ (fun i => i ≠ x) w w1 := by
  obtain ⟨F, F', h1, h2, hd, hF, hF', hb, hB, hx1, hx2⟩ := h
  refine ⟨F, h1, hF, fun w1 σ1 hp => ?_⟩
  obtain ⟨G, g1, g2, g3⟩ := hp
  refine ⟨⟨G, F', g1, h2.chg g3 (fun i hi hf => hd i hf hi), fun i hi hf => ?_, fun i hi => ?_, hF', hb.trans (g3.below (fun i hi hf => by have := hF i hf; omega) hB), Nat.le_trans hB g3.size, fun hf => ?_, hx2⟩, keepX g3 hx1⟩
  · rcases g2 i hi with h3 | h3
    · exact hd i h3 hf
    · have := h2.foot i hf; omega
  · rcases g2 i hi with h3 | h3
    · exact hF i h3
    · omega
  · rcases g2 x hf with h3 | h3
    · exact hx1 h3
    · omega
theorem TwoX.r (h : TwoX B0 w0 w g g' σ τ x) (hx : x < w.heap.size) : ∃ F, RefP w g' F τ ∧ (∀ i, F i → B0 ≤ i) ∧ ∀ w1 τ1, RefPost w g' F τ1 w1 → TwoX B0 w0 w1 g g' σ τ1 x ∧ KeepQ (fun i => i ≠ x) w w1 := by
  obtain ⟨F, F', h1, h2, hd, hF, hF', hb, hB, hx1, hx2⟩ := h
  refine ⟨F', h2, hF', fun w1 σ1 hp => ?_⟩
  obtain ⟨G, g1, g2, g3⟩ := hp
  refine ⟨⟨F, G, h1.chg g3 (fun i hi hf => hd i hi hf), g1, fun i hi hf => ?_, hF, fun i hi => ?_, hb.trans (g3.below (fun i hi hf => by have := hF' i hf; omega) hB), Nat.le_trans hB g3.size, hx1, fun hf => ?_⟩, keepX g3 hx2⟩
  · rcases g2 i hf with h3 | h3
    · exact hd i hi h3
    · have := h1.foot i hi; omega
  · rcases g2 i hi with h3 | h3
    · exact hF' i h3
    · omega
  · rcases g2 x hf with h3 | h3
    · exact hx2 h3
    · omega
end

def stepP (σ : Ps) (q : PA) : Ps := if q.k.tmod 4 = 0 then ⟨writeM σ.m q.i q.d, σ.e⟩ else if q.k.tmod 4 = 1 then ⟨flushM σ.m, σ.e⟩ else if q.k.tmod 4 = 2 then ⟨crashM σ.m q.l, σ.e⟩ else ⟨σ.m, sealI σ.m σ.e q.e⟩

set_option maxHeartbeats 16000000 in
set_option maxRecDepth 100000 in
theorem pastPlays_law (A : Option Addr) (l : List ByteArray) (c : Nat) (A' : Option Addr) (ls : List PA) (c' : Nat) (W : World) (hr : Reads W 1 A l.length (sts l)) (ha : PActs W A' ls) :
    Calls Try.prog 9 #[.slice A l.length c, .slice A' ls.length c'] W fun e w' => e = .returned (.bool true) ∧ Below W.heap.size W w' := by
  have Hr := Lib.hid hr
  have Ha := Lib.hid ha
  clear hr ha
  have HF := Lib.hid (few26_any W A l c Hr.out)
  cases hfew : few26 l with
  | false =>
    rw [hfew] at HF
    have HK := Lib.hid (known26_any W)
    clear hfew
    go_enter Try.func9, Try.ntmps9
    go_wp2_with fail
    refine HF.out.mono ?_
    rintro e w1 ⟨rfl, rfl⟩
    go_wp2_with fail
    refine HK.out.mono ?_
    rintro e w6 ⟨rfl, hb6⟩
    have Hb := Lib.hid hb6
    clear hb6
    go_wp2_with fail
    go_ret
    exact ⟨rfl, Hb.out⟩
  | true =>
    rw [hfew] at HF
    have hl20 := few26_len hfew
    clear hfew
    by_cases h60 : 60 < ls.length
    · have HK := Lib.hid (known26_any W)
      go_enter Try.func9, Try.ntmps9
      go_wp2_with fail
      refine HF.out.mono ?_
      rintro e w1 ⟨rfl, rfl⟩
      go_wp2_with fail
      refine HK.out.mono ?_
      rintro e w6 ⟨rfl, hb6⟩
      have Hb := Lib.hid hb6
      clear hb6
      go_wp2_with fail
      go_ret
      exact ⟨rfl, Hb.out⟩
    · have HN := Lib.hid (pNew_any W A c l Hr.out (by omega))
      go_enter Try.func9, Try.ntmps9
      go_wp2_with fail
      refine HF.out.mono ?_
      rintro e w1 ⟨rfl, rfl⟩
      go_wp2_with fail
      refine HN.out.mono ?_
      rintro e w1 ⟨g, F, rfl, hP, hF, hb1⟩
      have HP := Lib.hid hP
      have HFo := Lib.hid hF
      have Hb1 := Lib.hid hb1
      have HN2 := Lib.hid (rNew_any w1 A c l (Hr.out.below hb1) (by omega))
      clear hP hF hb1 HN HF
      go_wp2_with fail
      refine HN2.out.mono ?_
      rintro e w2 ⟨g', F', rfl, hP2, hF2, hb2⟩
      have HT := Lib.hid (show TwoX W.heap.size W w2 g g' ⟨newM l, []⟩ ⟨newM l, []⟩ w2.heap.size from ⟨F, F', HP.out.below hb2, hP2, fun i hi hf => by have h1 := HP.out.foot i hi; have h2 := hF2 i hf; omega, HFo.out, fun i hi => Nat.le_trans Hb1.out.size (hF2 i hi), Hb1.out.trans (hb2.mono Hb1.out.size), Nat.le_trans Hb1.out.size hb2.size, fun h => by have := (HP.out.below hb2).foot _ h; omega, fun h => by have := hP2.foot _ h; omega⟩)
      clear hP2 hF2 hb2 HN2 HP HFo Hb1
      go_wp2_with fail
      go_loopw [7] (fun v wr => ∃ (k : Nat) (σ : Ps), k ≤ ls.length ∧ v = .int .i64 k ∧ Hid (∃ x, TwoX W.heap.size W wr g g' σ σ x) ∧ Hid (okP (k + 1) σ)) (fun v _ => ls.length - (intOf v).toNat)
      case atStart => exact ⟨0, _, Nat.zero_le _, rfl, Lib.hid ⟨_, HT.out⟩, Lib.hid (okP.new (by omega) (by omega))⟩
      case round =>
        clear HT
        obtain ⟨k, σ, hk, rfl, HTx, Hok⟩ := hrel
        obtain ⟨x0, hx0⟩ := HTx.out
        have HT := Lib.hid (hx0.other (y := wr.heap.size) (Nat.le_refl _))
        clear HTx hx0
        by_cases hlt : k < ls.length
        · obtain ⟨ad, rfl, x0, x1, x2, x3, x4⟩ := pa_cells Ha.out.1 hlt
          have Hq := Lib.hid (Ha.out.2 _ (List.getElem_mem hlt))
          have hkI : (k : Int) < (ls.length : Int) := by omega
          generalize ls[k] = q at x0 x1 x2 x3 x4 Hq
          have a0 := (HT.out.b.cell (p := ad.add (k * 5)) (World.block_lt_of_cell? _ _ x0)).trans x0
          have a1 := (HT.out.b.cell (p := ⟨(ad.add (k * 5)).block, (ad.add (k * 5)).off + 1, none⟩) (World.block_lt_of_cell? _ _ x1)).trans x1
          have a2 := (HT.out.b.cell (p := ⟨(ad.add (k * 5)).block, (ad.add (k * 5)).off + 2, none⟩) (World.block_lt_of_cell? _ _ x2)).trans x2
          have a3 := (HT.out.b.cell (p := ⟨(ad.add (k * 5)).block, (ad.add (k * 5)).off + 3, none⟩) (World.block_lt_of_cell? _ _ x3)).trans x3
          have a4 := (HT.out.b.cell (p := ⟨(ad.add (k * 5)).block, (ad.add (k * 5)).off + 4, none⟩) (World.block_lt_of_cell? _ _ x4)).trans x4
          clear x0 x1 x2 x3 x4
          obtain ⟨kd, y, z, qA, qc, L, ep⟩ := q
          simp only at a0 a1 a2 a3 a4 Hq
          have hg := (alloc1 wr #[.int .i64 kd, .int .i64 y, .string z, .slice qA L.length qc, .int .u64 (ep : Int)] 59)
          have HT := Lib.hid (HT.out.below hg.1)
          have Hg := Lib.hid hg.2.1
          have Hs := Lib.hid (show wr.heap.size < (wr.alloc (.cells #[.int .i64 kd, .int .i64 y, .string z, .slice qA L.length qc, .int .u64 (ep : Int)] 59)).heap.size by rw [hg.2.2]; omega)
          have HFL := Lib.hid (few26_any _ qA L qc (Hq.out.below HT.out.b))
          clear hg
          go_wp2_with fail
          clear a0 a1 a2 a3 a4
          generalize wr.alloc (.cells #[.int .i64 kd, .int .i64 y, .string z, .slice qA L.length qc, .int .u64 (ep : Int)] 59) = wx at HT Hg Hs HFL ⊢
          generalize wr.heap.size = x at HT Hg Hs ⊢
          have b0 := (cell_at Hg.out 0 rfl).1
          have b1 := (cell_at Hg.out 1 rfl).1
          have b2 := (cell_at Hg.out 2 rfl).1
          have b3 := (cell_at Hg.out 3 rfl).1
          have b4 := (cell_at Hg.out 4 rfl).1
          refine HFL.out.mono ?_
          rintro e w3 ⟨rfl, rfl⟩
          have HK := Lib.hid (known26_any wx)
          cases hfewL : few26 L with
          | false =>
            clear hfewL
            go_wp2_with fail
            refine HK.out.mono ?_
            rintro e w6 ⟨rfl, hb6⟩
            have Hb := Lib.hid (HT.out.b.trans (hb6.mono HT.out.le))
            clear hb6
            go_wp2_with fail
            go_ret
            exact ⟨rfl, Hb.out⟩
          | true =>
            have hL20 := few26_len hfewL
            clear hfewL
            by_cases h200 : 200 < z.size
            · go_wp2_with fail
              refine HK.out.mono ?_
              rintro e w6 ⟨rfl, hb6⟩
              have Hb := Lib.hid (HT.out.b.trans (hb6.mono HT.out.le))
              clear hb6
              go_wp2_with fail
              go_ret
              exact ⟨rfl, Hb.out⟩
            · clear HK
              by_cases k0 : kd.tmod 4 = 0
              · have Hok6 := Lib.hid (Hok.out.write (by omega) y z)
                go_wp2_with fail
                obtain ⟨F1, hp1, _, hn1⟩ := (HT.out.below ((Below.refl wx.heap.size wx).drew)).p Hs.out
                have HW := Lib.hid (pWrite_any hp1 Hok.out y z)
                have Hn1 := Lib.hid hn1
                clear hp1 hn1
                have q1 := fun w' (hk : KeepQ (fun i => i ≠ x) wx.drew w') => hk.cell (p := ⟨x, 1, none⟩) b1 (by simp)
                have q2 := fun w' (hk : KeepQ (fun i => i ≠ x) wx.drew w') => hk.cell (p := ⟨x, 2, none⟩) b2 (by simp)
                clear b0 b1 b2 b3 b4
                refine wp_region_mix3 (KeepQ (fun i => i ≠ x)) (KeepQ.refl (fun i => i ≠ x)) (KeepQ.trans (fun i => i ≠ x)) [] [(0, 0), (0, 1), (0, 3), (0, 6), (0, 7), (0, 9), (1, 2), (1, 4), (1, 8), (1, 10), (2, 5), (2, 11), (0, 12)] (by kernel_rfl) (by kernel_rfl) (fun d _ _ _ _ h => by cases d <;> exact h) ?_
                repeat (first
                  | (refine mix3_free (v := ?_) rfl rfl ?_ (mix3_norm (a' := ?_) ?_ ?_)
                     rotate_left
                     focus (intro w'; go_simp; first | done | (with_reducible rfl))
                     rotate_left
                     focus (simp only [Act.put, List.getElem_toArray, List.getElem_cons_zero, List.getElem_cons_succ, List.setIfInBounds_toArray, List.set_cons_zero, List.set_cons_succ]; rfl))
                  | (refine mix3_pure (v := ?_) rfl rfl ?_ (mix3_norm (a' := ?_) ?_ ?_)
                     rotate_left
                     focus (intro w' hR; go_simp; first | done | (with_reducible rfl))
                     rotate_left
                     focus (simp only [Act.put, List.getElem_toArray, List.getElem_cons_zero, List.getElem_cons_succ, List.setIfInBounds_toArray, List.set_cons_zero, List.set_cons_succ]; rfl))
                  | (refine mix3_freeOff rfl rfl (mix3_norm (a' := ?_) ?_ ?_)
                     rotate_left
                     focus (simp only [Act.put, List.getElem_toArray, List.getElem_cons_zero, List.getElem_cons_succ, List.setIfInBounds_toArray, List.set_cons_zero, List.set_cons_succ]; rfl))
                  | (refine mix3_off rfl rfl (mix3_norm (a' := ?_) ?_ ?_)
                     rotate_left
                     focus (simp only [Act.put, List.getElem_toArray, List.getElem_cons_zero, List.getElem_cons_succ, List.setIfInBounds_toArray, List.set_cons_zero, List.set_cons_succ]; rfl)))
                clear q1 q2
                refine mix3_eff rfl ?_
                simp only [List.getElem_toArray, List.getElem_cons_zero, List.getElem_cons_succ]
                go_wp2_with fail
                refine HW.out.mono ?_
                rintro e w4 ⟨rfl, h4⟩
                obtain ⟨ht4, hk4⟩ := Hn1.out _ _ h4
                have HK4 := Lib.hid hk4
                obtain ⟨F2, hp2, _, hn2⟩ := ht4.r (Nat.lt_of_lt_of_le Hs.out hk4.1)
                have HR := Lib.hid (rWrite_any hp2 Hok.out y z)
                have Hn2 := Lib.hid hn2
                clear h4 HW Hn1 ht4 hk4 hp2 hn2
                go_wp2_with fail
                refine mixQ3_normal HK4.out rfl ?_
                refine mix3_eff rfl ?_
                simp only [List.getElem_toArray, List.getElem_cons_zero, List.getElem_cons_succ]
                go_wp2_with fail
                refine HR.out.mono ?_
                rintro e w6 ⟨rfl, h6⟩
                obtain ⟨ht6, hk6⟩ := Hn2.out _ _ h6
                have HT6 := Lib.hid ht6
                have HK6 := Lib.hid hk6
                have HG := Lib.hid (show w6.heap[x]? = _ from (hk6.2 x (Nat.lt_of_lt_of_le Hs.out HK4.out.1) (by simp)).trans ((HK4.out.2 x Hs.out (by simp)).trans Hg.out))
                clear h6 HR Hn2 ht6 hk6
                generalize (⟨writeM σ.m y z, σ.e⟩ : Ps) = τ at HT6 Hok6
                go_wp2_with fail
                refine mixQ3_normal HK6.out rfl ?_
                repeat (first
                  | (refine mix3_free (v := ?_) rfl rfl ?_ (mix3_norm (a' := ?_) ?_ ?_)
                     rotate_left
                     focus (intro w'; go_simp; first | done | (with_reducible rfl))
                     rotate_left
                     focus (simp only [Act.put, List.getElem_toArray, List.getElem_cons_zero, List.getElem_cons_succ, List.setIfInBounds_toArray, List.set_cons_zero, List.set_cons_succ]; rfl))
                  | (refine mix3_pure (v := ?_) rfl rfl ?_ (mix3_norm (a' := ?_) ?_ ?_)
                     rotate_left
                     focus (intro w' hR; go_simp; first | done | (with_reducible rfl))
                     rotate_left
                     focus (simp only [Act.put, List.getElem_toArray, List.getElem_cons_zero, List.getElem_cons_succ, List.setIfInBounds_toArray, List.set_cons_zero, List.set_cons_succ]; rfl))
                  | (refine mix3_freeOff rfl rfl (mix3_norm (a' := ?_) ?_ ?_)
                     rotate_left
                     focus (simp only [Act.put, List.getElem_toArray, List.getElem_cons_zero, List.getElem_cons_succ, List.setIfInBounds_toArray, List.set_cons_zero, List.set_cons_succ]; rfl))
                  | (refine mix3_off rfl rfl (mix3_norm (a' := ?_) ?_ ?_)
                     rotate_left
                     focus (simp only [Act.put, List.getElem_toArray, List.getElem_cons_zero, List.getElem_cons_succ, List.setIfInBounds_toArray, List.set_cons_zero, List.set_cons_succ]; rfl)))
                refine mix3_done ?_
                clear HK4 HK6 HT Hg Hs
                have b1 := (cell_at HG.out 1 rfl).1
                have b2 := (cell_at HG.out 2 rfl).1
                have b4 := (cell_at HG.out 4 rfl).1
                have hxlt : x < w6.heap.size := (Array.getElem?_eq_some_iff.1 HG.out).1
                have Hx6 := Lib.hid hxlt
                obtain ⟨F3, hp3, _⟩ := HT6.out.p hxlt
                obtain ⟨F4, hr3, _⟩ := HT6.out.r hxlt
                have HL := Lib.hid (pLast_any hp3 Hok6.out y)
                have HRL := Lib.hid (rLast_any hr3 Hok6.out y)
                have HI := Lib.hid (pImage_any hp3 Hok6.out ep)
                generalize lastP τ.m y = lp at HL HRL
                generalize hasP τ.m.length y = hh at HL HRL
                clear hp3 hr3 hxlt
                go_wp2_with fail
                refine HL.out.mono ?_
                rintro e w7 ⟨rfl, rfl⟩
                go_wp2_with fail
                refine HRL.out.mono ?_
                rintro e w7 ⟨rfl, rfl⟩
                go_wp2_with fail
                refine HI.out.mono ?_
                rintro e w7 ⟨A7, c7, rfl, h7⟩
                have HT7 := Lib.hid (HT6.out.below h7.2.2)
                have Hx7 := Lib.hid (Nat.lt_of_lt_of_le Hx6.out h7.2.2.size)
                have b1 := (h7.2.2.cell (p := ⟨x, 1, none⟩) Hx6.out).trans b1
                have b2 := (h7.2.2.cell (p := ⟨x, 2, none⟩) Hx6.out).trans b2
                have b4 := (h7.2.2.cell (p := ⟨x, 4, none⟩) Hx6.out).trans b4
                obtain ⟨F5, hr7, _⟩ := HT7.out.r Hx7.out
                have HRI := Lib.hid (rImage_any hr7 Hok6.out ep)
                have H7 := Lib.hid h7.1.reads
                have Hil := Lib.hid (show (imageL τ.e ep).length ≤ 100000 by
                  unfold imageL imgFind
                  cases hf : τ.e.find? (fun m => m.1 == ep) with
                  | none => simp
                  | some m => have := Hok6.out.i m (List.mem_of_find?_eq_some hf); simp; omega)
                generalize imageL τ.e ep = il at HI HRI H7 Hil
                generalize imageE τ.e ep = ie at HI HRI
                clear h7 hr7 HI HL HRL HG Hx6 HT6
                go_wp2_with fail
                refine HRI.out.mono ?_
                rintro e w8 ⟨A8, c8, rfl, hr8, rfl⟩
                have H8 := Lib.hid hr8
                clear hr8 HRI b4
                go_wp2_with fail
                have hbd : Below w7.heap.size w7 w7.drew := (Below.refl w7.heap.size w7).drew
                obtain ⟨F6, hp7, _⟩ := (HT7.out.below hbd).p Hx7.out
                have HM := Lib.hid (pMay_any hp7 Hok6.out y z)
                have q1 := fun w' (hk : KeepsBut [] w7.drew w') => hk.cell (p := ⟨x, 1, none⟩) b1 (by simp)
                have q2 := fun w' (hk : KeepsBut [] w7.drew w') => hk.cell (p := ⟨x, 2, none⟩) b2 (by simp)
                clear hbd hp7 b1 b2
                refine wp_region_mix3 (KeepsBut []) (KeepsBut.refl []) (KeepsBut.trans []) [] [(0, 0), (0, 1), (0, 2), (0, 3), (0, 4), (0, 5), (0, 6), (0, 7), (0, 8), (0, 9), (0, 10), (0, 12), (0, 15), (0, 16), (0, 18), (1, 11), (1, 13), (1, 17), (1, 19), (2, 14), (2, 20), (0, 21), (0, 22), (0, 23), (0, 24), (0, 25), (2, 26), (0, 27), (0, 28), (0, 29), (0, 30), (0, 31), (0, 32), (0, 33), (0, 34), (0, 35), (0, 37), (0, 38), (0, 39), (1, 40), (2, 36), (2, 41), (0, 42), (0, 43)] (by kernel_rfl) (by kernel_rfl) (fun d _ _ _ _ h => by cases d <;> exact h) ?_
                repeat (first
                  | (refine mix3_free (v := ?_) rfl rfl ?_ (mix3_norm (a' := ?_) ?_ ?_)
                     rotate_left
                     focus (intro w'; go_simp; first | done | (with_reducible rfl))
                     rotate_left
                     focus (simp only [Act.put, List.getElem_toArray, List.getElem_cons_zero, List.getElem_cons_succ, List.setIfInBounds_toArray, List.set_cons_zero, List.set_cons_succ]; rfl))
                  | (refine mix3_pure (v := ?_) rfl rfl ?_ (mix3_norm (a' := ?_) ?_ ?_)
                     rotate_left
                     focus (intro w' hR; go_simp; first | done | (with_reducible rfl))
                     rotate_left
                     focus (simp only [Act.put, List.getElem_toArray, List.getElem_cons_zero, List.getElem_cons_succ, List.setIfInBounds_toArray, List.set_cons_zero, List.set_cons_succ]; rfl))
                  | (refine mix3_freeOff rfl rfl (mix3_norm (a' := ?_) ?_ ?_)
                     rotate_left
                     focus (simp only [Act.put, List.getElem_toArray, List.getElem_cons_zero, List.getElem_cons_succ, List.setIfInBounds_toArray, List.set_cons_zero, List.set_cons_succ]; rfl))
                  | (refine mix3_off rfl rfl (mix3_norm (a' := ?_) ?_ ?_)
                     rotate_left
                     focus (simp only [Act.put, List.getElem_toArray, List.getElem_cons_zero, List.getElem_cons_succ, List.setIfInBounds_toArray, List.set_cons_zero, List.set_cons_succ]; rfl)))
                clear q1 q2
                refine mix3_eff rfl ?_
                simp only [List.getElem_toArray, List.getElem_cons_zero, List.getElem_cons_succ]
                go_wp2_with fail
                refine HM.out.mono ?_
                rintro e w8 ⟨rfl, hb8⟩
                have hb8' : Below w7.heap.size w7 w8 := ((Below.refl w7.heap.size w7).drew).trans hb8
                have HT8 := Lib.hid (HT7.out.below hb8')
                have Hx8 := Lib.hid (Nat.lt_of_lt_of_le Hx7.out hb8.size)
                have HK8 := Lib.hid (KeepsBut.of_below (M := []) hb8)
                have HTx := Lib.hid (texts_any A7 A8 il il c7 c8 w8 (H7.out.below hb8') (H8.out.below hb8') Hil.out)
                rw [decide_eq_true rfl] at HTx
                obtain ⟨F7, hr8, _⟩ := HT8.out.r Hx8.out
                have HH := Lib.hid (rHas_any hr8 Hok6.out y z)
                generalize mayP τ.m y z = mp at HM HH
                clear hb8 hb8' hr8 H7 H8 HT7 Hx7
                go_wp2_with fail
                refine mixQ3_normal HK8.out rfl ?_
                refine mix3_eff rfl ?_
                simp only [List.getElem_toArray, List.getElem_cons_zero, List.getElem_cons_succ]
                go_wp2_with fail
                refine HH.out.mono ?_
                rintro e w9 ⟨rfl, rfl⟩
                clear HK8 HM HH
                go_wp2_with fail
                refine mixQ3_normal (KeepsBut.refl [] _) rfl ?_
                repeat (first
                  | (refine mix3_free (v := ?_) rfl rfl ?_ (mix3_norm (a' := ?_) ?_ ?_)
                     rotate_left
                     focus (intro w'; go_simp; first | done | (with_reducible rfl))
                     rotate_left
                     focus (simp only [Act.put, List.getElem_toArray, List.getElem_cons_zero, List.getElem_cons_succ, List.setIfInBounds_toArray, List.set_cons_zero, List.set_cons_succ]; rfl))
                  | (refine mix3_pure (v := ?_) rfl rfl ?_ (mix3_norm (a' := ?_) ?_ ?_)
                     rotate_left
                     focus (intro w' hR; go_simp; first | done | (with_reducible rfl))
                     rotate_left
                     focus (simp only [Act.put, List.getElem_toArray, List.getElem_cons_zero, List.getElem_cons_succ, List.setIfInBounds_toArray, List.set_cons_zero, List.set_cons_succ]; rfl))
                  | (refine mix3_freeOff rfl rfl (mix3_norm (a' := ?_) ?_ ?_)
                     rotate_left
                     focus (simp only [Act.put, List.getElem_toArray, List.getElem_cons_zero, List.getElem_cons_succ, List.setIfInBounds_toArray, List.set_cons_zero, List.set_cons_succ]; rfl))
                  | (refine mix3_off rfl rfl (mix3_norm (a' := ?_) ?_ ?_)
                     rotate_left
                     focus (simp only [Act.put, List.getElem_toArray, List.getElem_cons_zero, List.getElem_cons_succ, List.setIfInBounds_toArray, List.set_cons_zero, List.set_cons_succ]; rfl)))
                refine mix3_eff rfl ?_
                simp only [List.getElem_toArray, List.getElem_cons_zero, List.getElem_cons_succ]
                go_wp2_with fail
                refine HTx.out.mono ?_
                rintro e w9 ⟨rfl, hb9⟩
                have HT9 := Lib.hid (HT8.out.below hb9)
                have Hx9 := Lib.hid (Nat.lt_of_lt_of_le Hx8.out hb9.size)
                have HK9 := Lib.hid (KeepsBut.of_below (M := []) hb9)
                obtain ⟨F8, hp9, _⟩ := HT9.out.p Hx9.out
                obtain ⟨F9, hr9, _⟩ := HT9.out.r Hx9.out
                obtain ⟨E, ce, e1, hE⟩ := hr9.eps
                have HE := Lib.hid hE
                have HEp := Lib.hid (pEpochs_any hp9 Hok6.out)
                have Hel := Lib.hid (show (τ.e.map (·.1)).length ≤ 100000 by rw [List.length_map]; have := Hok6.out.e; have := Hok6.out.n.2; omega)
                clear hb9 hp9 hr9 hE HTx HT8 Hx8
                go_wp2_with fail
                refine mixQ3_normal HK9.out rfl ?_
                have q3 := fun w' (hk : KeepsBut [] w9 w') => hk.cell (p := ⟨g', 1, none⟩) e1 (by simp)
                repeat (first
                  | (refine mix3_free (v := ?_) rfl rfl ?_ (mix3_norm (a' := ?_) ?_ ?_)
                     rotate_left
                     focus (intro w'; go_simp; first | done | (with_reducible rfl))
                     rotate_left
                     focus (simp only [Act.put, List.getElem_toArray, List.getElem_cons_zero, List.getElem_cons_succ, List.setIfInBounds_toArray, List.set_cons_zero, List.set_cons_succ]; rfl))
                  | (refine mix3_pure (v := ?_) rfl rfl ?_ (mix3_norm (a' := ?_) ?_ ?_)
                     rotate_left
                     focus (intro w' hR; go_simp; first | done | (with_reducible rfl))
                     rotate_left
                     focus (simp only [Act.put, List.getElem_toArray, List.getElem_cons_zero, List.getElem_cons_succ, List.setIfInBounds_toArray, List.set_cons_zero, List.set_cons_succ]; rfl))
                  | (refine mix3_freeOff rfl rfl (mix3_norm (a' := ?_) ?_ ?_)
                     rotate_left
                     focus (simp only [Act.put, List.getElem_toArray, List.getElem_cons_zero, List.getElem_cons_succ, List.setIfInBounds_toArray, List.set_cons_zero, List.set_cons_succ]; rfl))
                  | (refine mix3_off rfl rfl (mix3_norm (a' := ?_) ?_ ?_)
                     rotate_left
                     focus (simp only [Act.put, List.getElem_toArray, List.getElem_cons_zero, List.getElem_cons_succ, List.setIfInBounds_toArray, List.set_cons_zero, List.set_cons_succ]; rfl)))
                clear q3 e1 HK9
                refine mix3_eff rfl ?_
                simp only [List.getElem_toArray, List.getElem_cons_zero, List.getElem_cons_succ]
                go_wp2_with fail
                refine HEp.out.mono ?_
                rintro e w10 ⟨A10, c10, rfl, h10⟩
                have HT10 := Lib.hid (HT9.out.below h10.2.2)
                have HK10 := Lib.hid (KeepsBut.of_below (M := []) h10.2.2)
                have HNu := Lib.hid (numbers26_any A10 E (τ.e.map (·.1)) (τ.e.map (·.1)) c10 ce w10 h10.1.reads (by have := HE.out.below h10.2.2; rw [← List.length_map (f := (·.1))] at this; exact this) Hel.out)
                rw [decide_eq_true rfl, List.length_map] at HNu
                clear h10 HEp HT9 Hx9 HE
                go_wp2_with fail
                refine mixQ3_normal HK10.out rfl ?_
                refine mix3_eff rfl ?_
                simp only [List.getElem_toArray, List.getElem_cons_zero, List.getElem_cons_succ]
                go_wp2_with fail
                refine HNu.out.mono ?_
                rintro e w11 ⟨rfl, hb11⟩
                have HT11 := Lib.hid (HT10.out.below hb11)
                have HK11 := Lib.hid (KeepsBut.of_below (M := []) hb11)
                clear hb11 HNu HT10 HK10
                go_wp2_with fail
                refine mixQ3_normal HK11.out rfl ?_
                repeat (first
                  | (refine mix3_free (v := ?_) rfl rfl ?_ (mix3_norm (a' := ?_) ?_ ?_)
                     rotate_left
                     focus (intro w'; go_simp; first | done | (with_reducible rfl))
                     rotate_left
                     focus (simp only [Act.put, List.getElem_toArray, List.getElem_cons_zero, List.getElem_cons_succ, List.setIfInBounds_toArray, List.set_cons_zero, List.set_cons_succ]; rfl))
                  | (refine mix3_pure (v := ?_) rfl rfl ?_ (mix3_norm (a' := ?_) ?_ ?_)
                     rotate_left
                     focus (intro w' hR; go_simp; first | done | (with_reducible rfl))
                     rotate_left
                     focus (simp only [Act.put, List.getElem_toArray, List.getElem_cons_zero, List.getElem_cons_succ, List.setIfInBounds_toArray, List.set_cons_zero, List.set_cons_succ]; rfl))
                  | (refine mix3_freeOff rfl rfl (mix3_norm (a' := ?_) ?_ ?_)
                     rotate_left
                     focus (simp only [Act.put, List.getElem_toArray, List.getElem_cons_zero, List.getElem_cons_succ, List.setIfInBounds_toArray, List.set_cons_zero, List.set_cons_succ]; rfl))
                  | (refine mix3_off rfl rfl (mix3_norm (a' := ?_) ?_ ?_)
                     rotate_left
                     focus (simp only [Act.put, List.getElem_toArray, List.getElem_cons_zero, List.getElem_cons_succ, List.setIfInBounds_toArray, List.set_cons_zero, List.set_cons_succ]; rfl)))
                refine mix3_done ?_
                clear HK11
                go_wp2_with fail
                case roundEnd =>
                  exact ⟨⟨k + 1, τ, by omega, by push_cast; rfl, Lib.hid ⟨_, HT11.out⟩, Hok6⟩, by simp only [intOf]; omega⟩
              · by_cases k1 : kd.tmod 4 = 1
                · have Hok6 := Lib.hid (Hok.out.flush.mono (k := k + 1 + 1) (by omega) (by omega))
                  obtain ⟨F1, hp1, hB1, hn1⟩ := HT.out.p Hs.out
                  have HW := Lib.hid (pFlush_any hp1 Hok.out)
                  have Hn1 := Lib.hid hn1
                  clear hp1 hn1 hB1 k0
                  go_wp2_with fail
                  refine HW.out.mono ?_
                  rintro e w4 ⟨rfl, h4⟩
                  obtain ⟨ht4, hk4⟩ := Hn1.out _ _ h4
                  have HK4 := Lib.hid hk4
                  obtain ⟨F2, hp2, hB2, hn2⟩ := ht4.r (Nat.lt_of_lt_of_le Hs.out hk4.1)
                  have HR := Lib.hid (rFlush_any hp2 Hok.out)
                  have Hn2 := Lib.hid hn2
                  clear h4 HW Hn1 ht4 hk4 hp2 hn2 hB2 b0 b1 b2 b3 b4
                  go_wp2_with fail
                  refine HR.out.mono ?_
                  rintro e w6 ⟨rfl, h6⟩
                  obtain ⟨ht6, hk6⟩ := Hn2.out _ _ h6
                  have HT6 := Lib.hid ht6
                  have HG := Lib.hid (show w6.heap[x]? = _ from (hk6.2 x (Nat.lt_of_lt_of_le Hs.out HK4.out.1) (by simp)).trans ((HK4.out.2 x Hs.out (by simp)).trans Hg.out))
                  clear h6 HR Hn2 ht6 hk6 HK4 HT Hg Hs
                  generalize (⟨flushM σ.m, σ.e⟩ : Ps) = τ at HT6 Hok6
                  have b1 := (cell_at HG.out 1 rfl).1
                  have b2 := (cell_at HG.out 2 rfl).1
                  have b4 := (cell_at HG.out 4 rfl).1
                  have hxlt : x < w6.heap.size := (Array.getElem?_eq_some_iff.1 HG.out).1
                  have Hx6 := Lib.hid hxlt
                  obtain ⟨F3, hp3, _⟩ := HT6.out.p hxlt
                  obtain ⟨F4, hr3, _⟩ := HT6.out.r hxlt
                  have HL := Lib.hid (pLast_any hp3 Hok6.out y)
                  have HRL := Lib.hid (rLast_any hr3 Hok6.out y)
                  have HI := Lib.hid (pImage_any hp3 Hok6.out ep)
                  generalize lastP τ.m y = lp at HL HRL
                  generalize hasP τ.m.length y = hh at HL HRL
                  clear hp3 hr3 hxlt
                  go_wp2_with fail
                  refine HL.out.mono ?_
                  rintro e w7 ⟨rfl, rfl⟩
                  go_wp2_with fail
                  refine HRL.out.mono ?_
                  rintro e w7 ⟨rfl, rfl⟩
                  go_wp2_with fail
                  refine HI.out.mono ?_
                  rintro e w7 ⟨A7, c7, rfl, h7⟩
                  have HT7 := Lib.hid (HT6.out.below h7.2.2)
                  have Hx7 := Lib.hid (Nat.lt_of_lt_of_le Hx6.out h7.2.2.size)
                  have b1 := (h7.2.2.cell (p := ⟨x, 1, none⟩) Hx6.out).trans b1
                  have b2 := (h7.2.2.cell (p := ⟨x, 2, none⟩) Hx6.out).trans b2
                  have b4 := (h7.2.2.cell (p := ⟨x, 4, none⟩) Hx6.out).trans b4
                  obtain ⟨F5, hr7, _⟩ := HT7.out.r Hx7.out
                  have HRI := Lib.hid (rImage_any hr7 Hok6.out ep)
                  have H7 := Lib.hid h7.1.reads
                  have Hil := Lib.hid (show (imageL τ.e ep).length ≤ 100000 by
                    unfold imageL imgFind
                    cases hf : τ.e.find? (fun m => m.1 == ep) with
                    | none => simp
                    | some m => have := Hok6.out.i m (List.mem_of_find?_eq_some hf); simp; omega)
                  generalize imageL τ.e ep = il at HI HRI H7 Hil
                  generalize imageE τ.e ep = ie at HI HRI
                  clear h7 hr7 HI HL HRL HG Hx6 HT6
                  go_wp2_with fail
                  refine HRI.out.mono ?_
                  rintro e w8 ⟨A8, c8, rfl, hr8, rfl⟩
                  have H8 := Lib.hid hr8
                  clear hr8 HRI b4
                  go_wp2_with fail
                  have hbd : Below w7.heap.size w7 w7.drew := (Below.refl w7.heap.size w7).drew
                  obtain ⟨F6, hp7, _⟩ := (HT7.out.below hbd).p Hx7.out
                  have HM := Lib.hid (pMay_any hp7 Hok6.out y z)
                  have q1 := fun w' (hk : KeepsBut [] w7.drew w') => hk.cell (p := ⟨x, 1, none⟩) b1 (by simp)
                  have q2 := fun w' (hk : KeepsBut [] w7.drew w') => hk.cell (p := ⟨x, 2, none⟩) b2 (by simp)
                  clear hbd hp7 b1 b2
                  refine wp_region_mix3 (KeepsBut []) (KeepsBut.refl []) (KeepsBut.trans []) [] [(0, 0), (0, 1), (0, 2), (0, 3), (0, 4), (0, 5), (0, 6), (0, 7), (0, 8), (0, 9), (0, 10), (0, 12), (0, 15), (0, 16), (0, 18), (1, 11), (1, 13), (1, 17), (1, 19), (2, 14), (2, 20), (0, 21), (0, 22), (0, 23), (0, 24), (0, 25), (2, 26), (0, 27), (0, 28), (0, 29), (0, 30), (0, 31), (0, 32), (0, 33), (0, 34), (0, 35), (0, 37), (0, 38), (0, 39), (1, 40), (2, 36), (2, 41), (0, 42), (0, 43)] (by kernel_rfl) (by kernel_rfl) (fun d _ _ _ _ h => by cases d <;> exact h) ?_
                  repeat (first
                    | (refine mix3_free (v := ?_) rfl rfl ?_ (mix3_norm (a' := ?_) ?_ ?_)
                       rotate_left
                       focus (intro w'; go_simp; first | done | (with_reducible rfl))
                       rotate_left
                       focus (simp only [Act.put, List.getElem_toArray, List.getElem_cons_zero, List.getElem_cons_succ, List.setIfInBounds_toArray, List.set_cons_zero, List.set_cons_succ]; rfl))
                    | (refine mix3_pure (v := ?_) rfl rfl ?_ (mix3_norm (a' := ?_) ?_ ?_)
                       rotate_left
                       focus (intro w' hR; go_simp; first | done | (with_reducible rfl))
                       rotate_left
                       focus (simp only [Act.put, List.getElem_toArray, List.getElem_cons_zero, List.getElem_cons_succ, List.setIfInBounds_toArray, List.set_cons_zero, List.set_cons_succ]; rfl))
                    | (refine mix3_freeOff rfl rfl (mix3_norm (a' := ?_) ?_ ?_)
                       rotate_left
                       focus (simp only [Act.put, List.getElem_toArray, List.getElem_cons_zero, List.getElem_cons_succ, List.setIfInBounds_toArray, List.set_cons_zero, List.set_cons_succ]; rfl))
                    | (refine mix3_off rfl rfl (mix3_norm (a' := ?_) ?_ ?_)
                       rotate_left
                       focus (simp only [Act.put, List.getElem_toArray, List.getElem_cons_zero, List.getElem_cons_succ, List.setIfInBounds_toArray, List.set_cons_zero, List.set_cons_succ]; rfl)))
                  clear q1 q2
                  refine mix3_eff rfl ?_
                  simp only [List.getElem_toArray, List.getElem_cons_zero, List.getElem_cons_succ]
                  go_wp2_with fail
                  refine HM.out.mono ?_
                  rintro e w8 ⟨rfl, hb8⟩
                  have hb8' : Below w7.heap.size w7 w8 := ((Below.refl w7.heap.size w7).drew).trans hb8
                  have HT8 := Lib.hid (HT7.out.below hb8')
                  have Hx8 := Lib.hid (Nat.lt_of_lt_of_le Hx7.out hb8.size)
                  have HK8 := Lib.hid (KeepsBut.of_below (M := []) hb8)
                  have HTx := Lib.hid (texts_any A7 A8 il il c7 c8 w8 (H7.out.below hb8') (H8.out.below hb8') Hil.out)
                  rw [decide_eq_true rfl] at HTx
                  obtain ⟨F7, hr8, _⟩ := HT8.out.r Hx8.out
                  have HH := Lib.hid (rHas_any hr8 Hok6.out y z)
                  generalize mayP τ.m y z = mp at HM HH
                  clear hb8 hb8' hr8 H7 H8 HT7 Hx7
                  go_wp2_with fail
                  refine mixQ3_normal HK8.out rfl ?_
                  refine mix3_eff rfl ?_
                  simp only [List.getElem_toArray, List.getElem_cons_zero, List.getElem_cons_succ]
                  go_wp2_with fail
                  refine HH.out.mono ?_
                  rintro e w9 ⟨rfl, rfl⟩
                  clear HK8 HM HH
                  go_wp2_with fail
                  refine mixQ3_normal (KeepsBut.refl [] _) rfl ?_
                  repeat (first
                    | (refine mix3_free (v := ?_) rfl rfl ?_ (mix3_norm (a' := ?_) ?_ ?_)
                       rotate_left
                       focus (intro w'; go_simp; first | done | (with_reducible rfl))
                       rotate_left
                       focus (simp only [Act.put, List.getElem_toArray, List.getElem_cons_zero, List.getElem_cons_succ, List.setIfInBounds_toArray, List.set_cons_zero, List.set_cons_succ]; rfl))
                    | (refine mix3_pure (v := ?_) rfl rfl ?_ (mix3_norm (a' := ?_) ?_ ?_)
                       rotate_left
                       focus (intro w' hR; go_simp; first | done | (with_reducible rfl))
                       rotate_left
                       focus (simp only [Act.put, List.getElem_toArray, List.getElem_cons_zero, List.getElem_cons_succ, List.setIfInBounds_toArray, List.set_cons_zero, List.set_cons_succ]; rfl))
                    | (refine mix3_freeOff rfl rfl (mix3_norm (a' := ?_) ?_ ?_)
                       rotate_left
                       focus (simp only [Act.put, List.getElem_toArray, List.getElem_cons_zero, List.getElem_cons_succ, List.setIfInBounds_toArray, List.set_cons_zero, List.set_cons_succ]; rfl))
                    | (refine mix3_off rfl rfl (mix3_norm (a' := ?_) ?_ ?_)
                       rotate_left
                       focus (simp only [Act.put, List.getElem_toArray, List.getElem_cons_zero, List.getElem_cons_succ, List.setIfInBounds_toArray, List.set_cons_zero, List.set_cons_succ]; rfl)))
                  refine mix3_eff rfl ?_
                  simp only [List.getElem_toArray, List.getElem_cons_zero, List.getElem_cons_succ]
                  go_wp2_with fail
                  refine HTx.out.mono ?_
                  rintro e w9 ⟨rfl, hb9⟩
                  have HT9 := Lib.hid (HT8.out.below hb9)
                  have Hx9 := Lib.hid (Nat.lt_of_lt_of_le Hx8.out hb9.size)
                  have HK9 := Lib.hid (KeepsBut.of_below (M := []) hb9)
                  obtain ⟨F8, hp9, _⟩ := HT9.out.p Hx9.out
                  obtain ⟨F9, hr9, _⟩ := HT9.out.r Hx9.out
                  obtain ⟨E, ce, e1, hE⟩ := hr9.eps
                  have HE := Lib.hid hE
                  have HEp := Lib.hid (pEpochs_any hp9 Hok6.out)
                  have Hel := Lib.hid (show (τ.e.map (·.1)).length ≤ 100000 by rw [List.length_map]; have := Hok6.out.e; have := Hok6.out.n.2; omega)
                  clear hb9 hp9 hr9 hE HTx HT8 Hx8
                  go_wp2_with fail
                  refine mixQ3_normal HK9.out rfl ?_
                  have q3 := fun w' (hk : KeepsBut [] w9 w') => hk.cell (p := ⟨g', 1, none⟩) e1 (by simp)
                  repeat (first
                    | (refine mix3_free (v := ?_) rfl rfl ?_ (mix3_norm (a' := ?_) ?_ ?_)
                       rotate_left
                       focus (intro w'; go_simp; first | done | (with_reducible rfl))
                       rotate_left
                       focus (simp only [Act.put, List.getElem_toArray, List.getElem_cons_zero, List.getElem_cons_succ, List.setIfInBounds_toArray, List.set_cons_zero, List.set_cons_succ]; rfl))
                    | (refine mix3_pure (v := ?_) rfl rfl ?_ (mix3_norm (a' := ?_) ?_ ?_)
                       rotate_left
                       focus (intro w' hR; go_simp; first | done | (with_reducible rfl))
                       rotate_left
                       focus (simp only [Act.put, List.getElem_toArray, List.getElem_cons_zero, List.getElem_cons_succ, List.setIfInBounds_toArray, List.set_cons_zero, List.set_cons_succ]; rfl))
                    | (refine mix3_freeOff rfl rfl (mix3_norm (a' := ?_) ?_ ?_)
                       rotate_left
                       focus (simp only [Act.put, List.getElem_toArray, List.getElem_cons_zero, List.getElem_cons_succ, List.setIfInBounds_toArray, List.set_cons_zero, List.set_cons_succ]; rfl))
                    | (refine mix3_off rfl rfl (mix3_norm (a' := ?_) ?_ ?_)
                       rotate_left
                       focus (simp only [Act.put, List.getElem_toArray, List.getElem_cons_zero, List.getElem_cons_succ, List.setIfInBounds_toArray, List.set_cons_zero, List.set_cons_succ]; rfl)))
                  clear q3 e1 HK9
                  refine mix3_eff rfl ?_
                  simp only [List.getElem_toArray, List.getElem_cons_zero, List.getElem_cons_succ]
                  go_wp2_with fail
                  refine HEp.out.mono ?_
                  rintro e w10 ⟨A10, c10, rfl, h10⟩
                  have HT10 := Lib.hid (HT9.out.below h10.2.2)
                  have HK10 := Lib.hid (KeepsBut.of_below (M := []) h10.2.2)
                  have HNu := Lib.hid (numbers26_any A10 E (τ.e.map (·.1)) (τ.e.map (·.1)) c10 ce w10 h10.1.reads (by have := HE.out.below h10.2.2; rw [← List.length_map (f := (·.1))] at this; exact this) Hel.out)
                  rw [decide_eq_true rfl, List.length_map] at HNu
                  clear h10 HEp HT9 Hx9 HE
                  go_wp2_with fail
                  refine mixQ3_normal HK10.out rfl ?_
                  refine mix3_eff rfl ?_
                  simp only [List.getElem_toArray, List.getElem_cons_zero, List.getElem_cons_succ]
                  go_wp2_with fail
                  refine HNu.out.mono ?_
                  rintro e w11 ⟨rfl, hb11⟩
                  have HT11 := Lib.hid (HT10.out.below hb11)
                  have HK11 := Lib.hid (KeepsBut.of_below (M := []) hb11)
                  clear hb11 HNu HT10 HK10
                  go_wp2_with fail
                  refine mixQ3_normal HK11.out rfl ?_
                  repeat (first
                    | (refine mix3_free (v := ?_) rfl rfl ?_ (mix3_norm (a' := ?_) ?_ ?_)
                       rotate_left
                       focus (intro w'; go_simp; first | done | (with_reducible rfl))
                       rotate_left
                       focus (simp only [Act.put, List.getElem_toArray, List.getElem_cons_zero, List.getElem_cons_succ, List.setIfInBounds_toArray, List.set_cons_zero, List.set_cons_succ]; rfl))
                    | (refine mix3_pure (v := ?_) rfl rfl ?_ (mix3_norm (a' := ?_) ?_ ?_)
                       rotate_left
                       focus (intro w' hR; go_simp; first | done | (with_reducible rfl))
                       rotate_left
                       focus (simp only [Act.put, List.getElem_toArray, List.getElem_cons_zero, List.getElem_cons_succ, List.setIfInBounds_toArray, List.set_cons_zero, List.set_cons_succ]; rfl))
                    | (refine mix3_freeOff rfl rfl (mix3_norm (a' := ?_) ?_ ?_)
                       rotate_left
                       focus (simp only [Act.put, List.getElem_toArray, List.getElem_cons_zero, List.getElem_cons_succ, List.setIfInBounds_toArray, List.set_cons_zero, List.set_cons_succ]; rfl))
                    | (refine mix3_off rfl rfl (mix3_norm (a' := ?_) ?_ ?_)
                       rotate_left
                       focus (simp only [Act.put, List.getElem_toArray, List.getElem_cons_zero, List.getElem_cons_succ, List.setIfInBounds_toArray, List.set_cons_zero, List.set_cons_succ]; rfl)))
                  refine mix3_done ?_
                  clear HK11
                  go_wp2_with fail
                  case roundEnd =>
                    exact ⟨⟨k + 1, τ, by omega, by push_cast; rfl, Lib.hid ⟨_, HT11.out⟩, Hok6⟩, by simp only [intOf]; omega⟩
                · by_cases k2 : kd.tmod 4 = 2
                  · have Hok6 := Lib.hid ((Hok.out.crash L).mono (k := k + 1 + 1) (by omega) (by omega))
                    have Hsep := Lib.hid (show ∀ (F : Nat → Prop), (∀ i, F i → W.heap.size ≤ i) → 0 < L.length → ∀ k, blk qA = some k → ¬ F k from fun F hF h0 k hk hf => by
                      obtain ⟨ad, rfl, hc⟩ := str_cell Hq.out h0
                      have h1 := World.block_lt_of_cell? _ _ hc
                      rw [block_of_add] at h1
                      have h2 := hF k hf
                      have : ad.block = k := Option.some.inj hk
                      omega)
                    clear k0 k1
                    go_wp2_with fail
                    obtain ⟨F1, hp1, hB1, hn1⟩ := (HT.out.below ((Below.refl wx.heap.size wx).drew)).p Hs.out
                    have HW := Lib.hid (pCrash_any hp1 Hok.out qA qc L (Hq.out.below (HT.out.b.trans (Below.refl _ wx).drew)) (Hsep.out F1 hB1) (by omega))
                    have Hn1 := Lib.hid hn1
                    clear hp1 hn1 hB1
                    have q1 := fun w' (hk : KeepQ (fun i => i ≠ x) wx.drew w') => hk.cell (p := ⟨x, 3, none⟩) b3 (by simp)
                    clear b0 b1 b2 b3 b4
                    refine wp_region_mix3 (KeepQ (fun i => i ≠ x)) (KeepQ.refl (fun i => i ≠ x)) (KeepQ.trans (fun i => i ≠ x)) [] [(0, 0), (0, 1), (0, 4), (0, 5), (1, 2), (1, 6), (2, 3), (2, 7), (0, 8)] (by kernel_rfl) (by kernel_rfl) (fun d _ _ _ _ h => by cases d <;> exact h) ?_
                    repeat (first
                      | (refine mix3_free (v := ?_) rfl rfl ?_ (mix3_norm (a' := ?_) ?_ ?_)
                         rotate_left
                         focus (intro w'; go_simp; first | done | (with_reducible rfl))
                         rotate_left
                         focus (simp only [Act.put, List.getElem_toArray, List.getElem_cons_zero, List.getElem_cons_succ, List.setIfInBounds_toArray, List.set_cons_zero, List.set_cons_succ]; rfl))
                      | (refine mix3_pure (v := ?_) rfl rfl ?_ (mix3_norm (a' := ?_) ?_ ?_)
                         rotate_left
                         focus (intro w' hR; go_simp; first | done | (with_reducible rfl))
                         rotate_left
                         focus (simp only [Act.put, List.getElem_toArray, List.getElem_cons_zero, List.getElem_cons_succ, List.setIfInBounds_toArray, List.set_cons_zero, List.set_cons_succ]; rfl))
                      | (refine mix3_freeOff rfl rfl (mix3_norm (a' := ?_) ?_ ?_)
                         rotate_left
                         focus (simp only [Act.put, List.getElem_toArray, List.getElem_cons_zero, List.getElem_cons_succ, List.setIfInBounds_toArray, List.set_cons_zero, List.set_cons_succ]; rfl))
                      | (refine mix3_off rfl rfl (mix3_norm (a' := ?_) ?_ ?_)
                         rotate_left
                         focus (simp only [Act.put, List.getElem_toArray, List.getElem_cons_zero, List.getElem_cons_succ, List.setIfInBounds_toArray, List.set_cons_zero, List.set_cons_succ]; rfl)))
                    clear q1
                    refine mix3_eff rfl ?_
                    simp only [List.getElem_toArray, List.getElem_cons_zero, List.getElem_cons_succ]
                    go_wp2_with fail
                    refine HW.out.mono ?_
                    rintro e w4 ⟨rfl, h4⟩
                    obtain ⟨ht4, hk4⟩ := Hn1.out _ _ h4
                    have HK4 := Lib.hid hk4
                    obtain ⟨F2, hp2, hB2, hn2⟩ := ht4.r (Nat.lt_of_lt_of_le Hs.out hk4.1)
                    have HR := Lib.hid (rCrash_any hp2 Hok.out qA qc L (Hq.out.below ht4.b) (Hsep.out F2 hB2) (by omega))
                    have Hn2 := Lib.hid hn2
                    clear h4 HW Hn1 ht4 hk4 hp2 hn2 hB2
                    go_wp2_with fail
                    refine mixQ3_normal HK4.out rfl ?_
                    refine mix3_eff rfl ?_
                    simp only [List.getElem_toArray, List.getElem_cons_zero, List.getElem_cons_succ]
                    go_wp2_with fail
                    refine HR.out.mono ?_
                    rintro e w6 ⟨rfl, h6⟩
                    obtain ⟨ht6, hk6⟩ := Hn2.out _ _ h6
                    have HT6 := Lib.hid ht6
                    have HK6 := Lib.hid hk6
                    have HG := Lib.hid (show w6.heap[x]? = _ from (hk6.2 x (Nat.lt_of_lt_of_le Hs.out HK4.out.1) (by simp)).trans ((HK4.out.2 x Hs.out (by simp)).trans Hg.out))
                    clear h6 HR Hn2 ht6 hk6
                    generalize (⟨crashM σ.m L, σ.e⟩ : Ps) = τ at HT6 Hok6
                    go_wp2_with fail
                    refine mixQ3_normal HK6.out rfl ?_
                    repeat (first
                      | (refine mix3_free (v := ?_) rfl rfl ?_ (mix3_norm (a' := ?_) ?_ ?_)
                         rotate_left
                         focus (intro w'; go_simp; first | done | (with_reducible rfl))
                         rotate_left
                         focus (simp only [Act.put, List.getElem_toArray, List.getElem_cons_zero, List.getElem_cons_succ, List.setIfInBounds_toArray, List.set_cons_zero, List.set_cons_succ]; rfl))
                      | (refine mix3_pure (v := ?_) rfl rfl ?_ (mix3_norm (a' := ?_) ?_ ?_)
                         rotate_left
                         focus (intro w' hR; go_simp; first | done | (with_reducible rfl))
                         rotate_left
                         focus (simp only [Act.put, List.getElem_toArray, List.getElem_cons_zero, List.getElem_cons_succ, List.setIfInBounds_toArray, List.set_cons_zero, List.set_cons_succ]; rfl))
                      | (refine mix3_freeOff rfl rfl (mix3_norm (a' := ?_) ?_ ?_)
                         rotate_left
                         focus (simp only [Act.put, List.getElem_toArray, List.getElem_cons_zero, List.getElem_cons_succ, List.setIfInBounds_toArray, List.set_cons_zero, List.set_cons_succ]; rfl))
                      | (refine mix3_off rfl rfl (mix3_norm (a' := ?_) ?_ ?_)
                         rotate_left
                         focus (simp only [Act.put, List.getElem_toArray, List.getElem_cons_zero, List.getElem_cons_succ, List.setIfInBounds_toArray, List.set_cons_zero, List.set_cons_succ]; rfl)))
                    refine mix3_done ?_
                    clear HK4 HK6 HT Hg Hs
                    have b1 := (cell_at HG.out 1 rfl).1
                    have b2 := (cell_at HG.out 2 rfl).1
                    have b4 := (cell_at HG.out 4 rfl).1
                    have hxlt : x < w6.heap.size := (Array.getElem?_eq_some_iff.1 HG.out).1
                    have Hx6 := Lib.hid hxlt
                    obtain ⟨F3, hp3, _⟩ := HT6.out.p hxlt
                    obtain ⟨F4, hr3, _⟩ := HT6.out.r hxlt
                    have HL := Lib.hid (pLast_any hp3 Hok6.out y)
                    have HRL := Lib.hid (rLast_any hr3 Hok6.out y)
                    have HI := Lib.hid (pImage_any hp3 Hok6.out ep)
                    generalize lastP τ.m y = lp at HL HRL
                    generalize hasP τ.m.length y = hh at HL HRL
                    clear hp3 hr3 hxlt
                    go_wp2_with fail
                    refine HL.out.mono ?_
                    rintro e w7 ⟨rfl, rfl⟩
                    go_wp2_with fail
                    refine HRL.out.mono ?_
                    rintro e w7 ⟨rfl, rfl⟩
                    go_wp2_with fail
                    refine HI.out.mono ?_
                    rintro e w7 ⟨A7, c7, rfl, h7⟩
                    have HT7 := Lib.hid (HT6.out.below h7.2.2)
                    have Hx7 := Lib.hid (Nat.lt_of_lt_of_le Hx6.out h7.2.2.size)
                    have b1 := (h7.2.2.cell (p := ⟨x, 1, none⟩) Hx6.out).trans b1
                    have b2 := (h7.2.2.cell (p := ⟨x, 2, none⟩) Hx6.out).trans b2
                    have b4 := (h7.2.2.cell (p := ⟨x, 4, none⟩) Hx6.out).trans b4
                    obtain ⟨F5, hr7, _⟩ := HT7.out.r Hx7.out
                    have HRI := Lib.hid (rImage_any hr7 Hok6.out ep)
                    have H7 := Lib.hid h7.1.reads
                    have Hil := Lib.hid (show (imageL τ.e ep).length ≤ 100000 by
                      unfold imageL imgFind
                      cases hf : τ.e.find? (fun m => m.1 == ep) with
                      | none => simp
                      | some m => have := Hok6.out.i m (List.mem_of_find?_eq_some hf); simp; omega)
                    generalize imageL τ.e ep = il at HI HRI H7 Hil
                    generalize imageE τ.e ep = ie at HI HRI
                    clear h7 hr7 HI HL HRL HG Hx6 HT6
                    go_wp2_with fail
                    refine HRI.out.mono ?_
                    rintro e w8 ⟨A8, c8, rfl, hr8, rfl⟩
                    have H8 := Lib.hid hr8
                    clear hr8 HRI b4
                    go_wp2_with fail
                    have hbd : Below w7.heap.size w7 w7.drew := (Below.refl w7.heap.size w7).drew
                    obtain ⟨F6, hp7, _⟩ := (HT7.out.below hbd).p Hx7.out
                    have HM := Lib.hid (pMay_any hp7 Hok6.out y z)
                    have q1 := fun w' (hk : KeepsBut [] w7.drew w') => hk.cell (p := ⟨x, 1, none⟩) b1 (by simp)
                    have q2 := fun w' (hk : KeepsBut [] w7.drew w') => hk.cell (p := ⟨x, 2, none⟩) b2 (by simp)
                    clear hbd hp7 b1 b2
                    refine wp_region_mix3 (KeepsBut []) (KeepsBut.refl []) (KeepsBut.trans []) [] [(0, 0), (0, 1), (0, 2), (0, 3), (0, 4), (0, 5), (0, 6), (0, 7), (0, 8), (0, 9), (0, 10), (0, 12), (0, 15), (0, 16), (0, 18), (1, 11), (1, 13), (1, 17), (1, 19), (2, 14), (2, 20), (0, 21), (0, 22), (0, 23), (0, 24), (0, 25), (2, 26), (0, 27), (0, 28), (0, 29), (0, 30), (0, 31), (0, 32), (0, 33), (0, 34), (0, 35), (0, 37), (0, 38), (0, 39), (1, 40), (2, 36), (2, 41), (0, 42), (0, 43)] (by kernel_rfl) (by kernel_rfl) (fun d _ _ _ _ h => by cases d <;> exact h) ?_
                    repeat (first
                      | (refine mix3_free (v := ?_) rfl rfl ?_ (mix3_norm (a' := ?_) ?_ ?_)
                         rotate_left
                         focus (intro w'; go_simp; first | done | (with_reducible rfl))
                         rotate_left
                         focus (simp only [Act.put, List.getElem_toArray, List.getElem_cons_zero, List.getElem_cons_succ, List.setIfInBounds_toArray, List.set_cons_zero, List.set_cons_succ]; rfl))
                      | (refine mix3_pure (v := ?_) rfl rfl ?_ (mix3_norm (a' := ?_) ?_ ?_)
                         rotate_left
                         focus (intro w' hR; go_simp; first | done | (with_reducible rfl))
                         rotate_left
                         focus (simp only [Act.put, List.getElem_toArray, List.getElem_cons_zero, List.getElem_cons_succ, List.setIfInBounds_toArray, List.set_cons_zero, List.set_cons_succ]; rfl))
                      | (refine mix3_freeOff rfl rfl (mix3_norm (a' := ?_) ?_ ?_)
                         rotate_left
                         focus (simp only [Act.put, List.getElem_toArray, List.getElem_cons_zero, List.getElem_cons_succ, List.setIfInBounds_toArray, List.set_cons_zero, List.set_cons_succ]; rfl))
                      | (refine mix3_off rfl rfl (mix3_norm (a' := ?_) ?_ ?_)
                         rotate_left
                         focus (simp only [Act.put, List.getElem_toArray, List.getElem_cons_zero, List.getElem_cons_succ, List.setIfInBounds_toArray, List.set_cons_zero, List.set_cons_succ]; rfl)))
                    clear q1 q2
                    refine mix3_eff rfl ?_
                    simp only [List.getElem_toArray, List.getElem_cons_zero, List.getElem_cons_succ]
                    go_wp2_with fail
                    refine HM.out.mono ?_
                    rintro e w8 ⟨rfl, hb8⟩
                    have hb8' : Below w7.heap.size w7 w8 := ((Below.refl w7.heap.size w7).drew).trans hb8
                    have HT8 := Lib.hid (HT7.out.below hb8')
                    have Hx8 := Lib.hid (Nat.lt_of_lt_of_le Hx7.out hb8.size)
                    have HK8 := Lib.hid (KeepsBut.of_below (M := []) hb8)
                    have HTx := Lib.hid (texts_any A7 A8 il il c7 c8 w8 (H7.out.below hb8') (H8.out.below hb8') Hil.out)
                    rw [decide_eq_true rfl] at HTx
                    obtain ⟨F7, hr8, _⟩ := HT8.out.r Hx8.out
                    have HH := Lib.hid (rHas_any hr8 Hok6.out y z)
                    generalize mayP τ.m y z = mp at HM HH
                    clear hb8 hb8' hr8 H7 H8 HT7 Hx7
                    go_wp2_with fail
                    refine mixQ3_normal HK8.out rfl ?_
                    refine mix3_eff rfl ?_
                    simp only [List.getElem_toArray, List.getElem_cons_zero, List.getElem_cons_succ]
                    go_wp2_with fail
                    refine HH.out.mono ?_
                    rintro e w9 ⟨rfl, rfl⟩
                    clear HK8 HM HH
                    go_wp2_with fail
                    refine mixQ3_normal (KeepsBut.refl [] _) rfl ?_
                    repeat (first
                      | (refine mix3_free (v := ?_) rfl rfl ?_ (mix3_norm (a' := ?_) ?_ ?_)
                         rotate_left
                         focus (intro w'; go_simp; first | done | (with_reducible rfl))
                         rotate_left
                         focus (simp only [Act.put, List.getElem_toArray, List.getElem_cons_zero, List.getElem_cons_succ, List.setIfInBounds_toArray, List.set_cons_zero, List.set_cons_succ]; rfl))
                      | (refine mix3_pure (v := ?_) rfl rfl ?_ (mix3_norm (a' := ?_) ?_ ?_)
                         rotate_left
                         focus (intro w' hR; go_simp; first | done | (with_reducible rfl))
                         rotate_left
                         focus (simp only [Act.put, List.getElem_toArray, List.getElem_cons_zero, List.getElem_cons_succ, List.setIfInBounds_toArray, List.set_cons_zero, List.set_cons_succ]; rfl))
                      | (refine mix3_freeOff rfl rfl (mix3_norm (a' := ?_) ?_ ?_)
                         rotate_left
                         focus (simp only [Act.put, List.getElem_toArray, List.getElem_cons_zero, List.getElem_cons_succ, List.setIfInBounds_toArray, List.set_cons_zero, List.set_cons_succ]; rfl))
                      | (refine mix3_off rfl rfl (mix3_norm (a' := ?_) ?_ ?_)
                         rotate_left
                         focus (simp only [Act.put, List.getElem_toArray, List.getElem_cons_zero, List.getElem_cons_succ, List.setIfInBounds_toArray, List.set_cons_zero, List.set_cons_succ]; rfl)))
                    refine mix3_eff rfl ?_
                    simp only [List.getElem_toArray, List.getElem_cons_zero, List.getElem_cons_succ]
                    go_wp2_with fail
                    refine HTx.out.mono ?_
                    rintro e w9 ⟨rfl, hb9⟩
                    have HT9 := Lib.hid (HT8.out.below hb9)
                    have Hx9 := Lib.hid (Nat.lt_of_lt_of_le Hx8.out hb9.size)
                    have HK9 := Lib.hid (KeepsBut.of_below (M := []) hb9)
                    obtain ⟨F8, hp9, _⟩ := HT9.out.p Hx9.out
                    obtain ⟨F9, hr9, _⟩ := HT9.out.r Hx9.out
                    obtain ⟨E, ce, e1, hE⟩ := hr9.eps
                    have HE := Lib.hid hE
                    have HEp := Lib.hid (pEpochs_any hp9 Hok6.out)
                    have Hel := Lib.hid (show (τ.e.map (·.1)).length ≤ 100000 by rw [List.length_map]; have := Hok6.out.e; have := Hok6.out.n.2; omega)
                    clear hb9 hp9 hr9 hE HTx HT8 Hx8
                    go_wp2_with fail
                    refine mixQ3_normal HK9.out rfl ?_
                    have q3 := fun w' (hk : KeepsBut [] w9 w') => hk.cell (p := ⟨g', 1, none⟩) e1 (by simp)
                    repeat (first
                      | (refine mix3_free (v := ?_) rfl rfl ?_ (mix3_norm (a' := ?_) ?_ ?_)
                         rotate_left
                         focus (intro w'; go_simp; first | done | (with_reducible rfl))
                         rotate_left
                         focus (simp only [Act.put, List.getElem_toArray, List.getElem_cons_zero, List.getElem_cons_succ, List.setIfInBounds_toArray, List.set_cons_zero, List.set_cons_succ]; rfl))
                      | (refine mix3_pure (v := ?_) rfl rfl ?_ (mix3_norm (a' := ?_) ?_ ?_)
                         rotate_left
                         focus (intro w' hR; go_simp; first | done | (with_reducible rfl))
                         rotate_left
                         focus (simp only [Act.put, List.getElem_toArray, List.getElem_cons_zero, List.getElem_cons_succ, List.setIfInBounds_toArray, List.set_cons_zero, List.set_cons_succ]; rfl))
                      | (refine mix3_freeOff rfl rfl (mix3_norm (a' := ?_) ?_ ?_)
                         rotate_left
                         focus (simp only [Act.put, List.getElem_toArray, List.getElem_cons_zero, List.getElem_cons_succ, List.setIfInBounds_toArray, List.set_cons_zero, List.set_cons_succ]; rfl))
                      | (refine mix3_off rfl rfl (mix3_norm (a' := ?_) ?_ ?_)
                         rotate_left
                         focus (simp only [Act.put, List.getElem_toArray, List.getElem_cons_zero, List.getElem_cons_succ, List.setIfInBounds_toArray, List.set_cons_zero, List.set_cons_succ]; rfl)))
                    clear q3 e1 HK9
                    refine mix3_eff rfl ?_
                    simp only [List.getElem_toArray, List.getElem_cons_zero, List.getElem_cons_succ]
                    go_wp2_with fail
                    refine HEp.out.mono ?_
                    rintro e w10 ⟨A10, c10, rfl, h10⟩
                    have HT10 := Lib.hid (HT9.out.below h10.2.2)
                    have HK10 := Lib.hid (KeepsBut.of_below (M := []) h10.2.2)
                    have HNu := Lib.hid (numbers26_any A10 E (τ.e.map (·.1)) (τ.e.map (·.1)) c10 ce w10 h10.1.reads (by have := HE.out.below h10.2.2; rw [← List.length_map (f := (·.1))] at this; exact this) Hel.out)
                    rw [decide_eq_true rfl, List.length_map] at HNu
                    clear h10 HEp HT9 Hx9 HE
                    go_wp2_with fail
                    refine mixQ3_normal HK10.out rfl ?_
                    refine mix3_eff rfl ?_
                    simp only [List.getElem_toArray, List.getElem_cons_zero, List.getElem_cons_succ]
                    go_wp2_with fail
                    refine HNu.out.mono ?_
                    rintro e w11 ⟨rfl, hb11⟩
                    have HT11 := Lib.hid (HT10.out.below hb11)
                    have HK11 := Lib.hid (KeepsBut.of_below (M := []) hb11)
                    clear hb11 HNu HT10 HK10
                    go_wp2_with fail
                    refine mixQ3_normal HK11.out rfl ?_
                    repeat (first
                      | (refine mix3_free (v := ?_) rfl rfl ?_ (mix3_norm (a' := ?_) ?_ ?_)
                         rotate_left
                         focus (intro w'; go_simp; first | done | (with_reducible rfl))
                         rotate_left
                         focus (simp only [Act.put, List.getElem_toArray, List.getElem_cons_zero, List.getElem_cons_succ, List.setIfInBounds_toArray, List.set_cons_zero, List.set_cons_succ]; rfl))
                      | (refine mix3_pure (v := ?_) rfl rfl ?_ (mix3_norm (a' := ?_) ?_ ?_)
                         rotate_left
                         focus (intro w' hR; go_simp; first | done | (with_reducible rfl))
                         rotate_left
                         focus (simp only [Act.put, List.getElem_toArray, List.getElem_cons_zero, List.getElem_cons_succ, List.setIfInBounds_toArray, List.set_cons_zero, List.set_cons_succ]; rfl))
                      | (refine mix3_freeOff rfl rfl (mix3_norm (a' := ?_) ?_ ?_)
                         rotate_left
                         focus (simp only [Act.put, List.getElem_toArray, List.getElem_cons_zero, List.getElem_cons_succ, List.setIfInBounds_toArray, List.set_cons_zero, List.set_cons_succ]; rfl))
                      | (refine mix3_off rfl rfl (mix3_norm (a' := ?_) ?_ ?_)
                         rotate_left
                         focus (simp only [Act.put, List.getElem_toArray, List.getElem_cons_zero, List.getElem_cons_succ, List.setIfInBounds_toArray, List.set_cons_zero, List.set_cons_succ]; rfl)))
                    refine mix3_done ?_
                    clear HK11
                    go_wp2_with fail
                    case roundEnd =>
                      exact ⟨⟨k + 1, τ, by omega, by push_cast; rfl, Lib.hid ⟨_, HT11.out⟩, Hok6⟩, by simp only [intOf]; omega⟩
                  · have Hok6 := Lib.hid (Hok.out.seal (by omega) ep)
                    go_wp2_with fail
                    obtain ⟨F1, hp1, hB1, hn1⟩ := (HT.out.below ((Below.refl wx.heap.size wx).drew)).p Hs.out
                    have HW := Lib.hid (pSeal_any hp1 Hok.out ep)
                    have Hn1 := Lib.hid hn1
                    clear hp1 hn1 hB1
                    have q1 := fun w' (hk : KeepQ (fun i => i ≠ x) wx.drew w') => hk.cell (p := ⟨x, 4, none⟩) b4 (by simp)
                    clear b0 b1 b2 b3 b4
                    refine wp_region_mix3 (KeepQ (fun i => i ≠ x)) (KeepQ.refl (fun i => i ≠ x)) (KeepQ.trans (fun i => i ≠ x)) [] [(0, 0), (0, 1), (0, 4), (0, 5), (1, 2), (1, 6), (2, 3), (2, 7), (0, 8)] (by kernel_rfl) (by kernel_rfl) (fun d _ _ _ _ h => by cases d <;> exact h) ?_
                    repeat (first
                      | (refine mix3_free (v := ?_) rfl rfl ?_ (mix3_norm (a' := ?_) ?_ ?_)
                         rotate_left
                         focus (intro w'; go_simp; first | done | (with_reducible rfl))
                         rotate_left
                         focus (simp only [Act.put, List.getElem_toArray, List.getElem_cons_zero, List.getElem_cons_succ, List.setIfInBounds_toArray, List.set_cons_zero, List.set_cons_succ]; rfl))
                      | (refine mix3_pure (v := ?_) rfl rfl ?_ (mix3_norm (a' := ?_) ?_ ?_)
                         rotate_left
                         focus (intro w' hR; go_simp; first | done | (with_reducible rfl))
                         rotate_left
                         focus (simp only [Act.put, List.getElem_toArray, List.getElem_cons_zero, List.getElem_cons_succ, List.setIfInBounds_toArray, List.set_cons_zero, List.set_cons_succ]; rfl))
                      | (refine mix3_freeOff rfl rfl (mix3_norm (a' := ?_) ?_ ?_)
                         rotate_left
                         focus (simp only [Act.put, List.getElem_toArray, List.getElem_cons_zero, List.getElem_cons_succ, List.setIfInBounds_toArray, List.set_cons_zero, List.set_cons_succ]; rfl))
                      | (refine mix3_off rfl rfl (mix3_norm (a' := ?_) ?_ ?_)
                         rotate_left
                         focus (simp only [Act.put, List.getElem_toArray, List.getElem_cons_zero, List.getElem_cons_succ, List.setIfInBounds_toArray, List.set_cons_zero, List.set_cons_succ]; rfl)))
                    clear q1
                    refine mix3_eff rfl ?_
                    simp only [List.getElem_toArray, List.getElem_cons_zero, List.getElem_cons_succ]
                    go_wp2_with fail
                    refine HW.out.mono ?_
                    rintro e w4 ⟨rfl, h4⟩
                    obtain ⟨ht4, hk4⟩ := Hn1.out _ _ h4
                    have HK4 := Lib.hid hk4
                    obtain ⟨F2, hp2, hB2, hn2⟩ := ht4.r (Nat.lt_of_lt_of_le Hs.out hk4.1)
                    have HR := Lib.hid (rSeal_any hp2 Hok.out ep)
                    have Hn2 := Lib.hid hn2
                    clear h4 HW Hn1 ht4 hk4 hp2 hn2 hB2
                    go_wp2_with fail
                    refine mixQ3_normal HK4.out rfl ?_
                    refine mix3_eff rfl ?_
                    simp only [List.getElem_toArray, List.getElem_cons_zero, List.getElem_cons_succ]
                    go_wp2_with fail
                    refine HR.out.mono ?_
                    rintro e w6 ⟨rfl, h6⟩
                    obtain ⟨ht6, hk6⟩ := Hn2.out _ _ h6
                    have HT6 := Lib.hid ht6
                    have HK6 := Lib.hid hk6
                    have HG := Lib.hid (show w6.heap[x]? = _ from (hk6.2 x (Nat.lt_of_lt_of_le Hs.out HK4.out.1) (by simp)).trans ((HK4.out.2 x Hs.out (by simp)).trans Hg.out))
                    clear h6 HR Hn2 ht6 hk6
                    generalize (⟨σ.m, sealI σ.m σ.e ep⟩ : Ps) = τ at HT6 Hok6
                    go_wp2_with fail
                    refine mixQ3_normal HK6.out rfl ?_
                    repeat (first
                      | (refine mix3_free (v := ?_) rfl rfl ?_ (mix3_norm (a' := ?_) ?_ ?_)
                         rotate_left
                         focus (intro w'; go_simp; first | done | (with_reducible rfl))
                         rotate_left
                         focus (simp only [Act.put, List.getElem_toArray, List.getElem_cons_zero, List.getElem_cons_succ, List.setIfInBounds_toArray, List.set_cons_zero, List.set_cons_succ]; rfl))
                      | (refine mix3_pure (v := ?_) rfl rfl ?_ (mix3_norm (a' := ?_) ?_ ?_)
                         rotate_left
                         focus (intro w' hR; go_simp; first | done | (with_reducible rfl))
                         rotate_left
                         focus (simp only [Act.put, List.getElem_toArray, List.getElem_cons_zero, List.getElem_cons_succ, List.setIfInBounds_toArray, List.set_cons_zero, List.set_cons_succ]; rfl))
                      | (refine mix3_freeOff rfl rfl (mix3_norm (a' := ?_) ?_ ?_)
                         rotate_left
                         focus (simp only [Act.put, List.getElem_toArray, List.getElem_cons_zero, List.getElem_cons_succ, List.setIfInBounds_toArray, List.set_cons_zero, List.set_cons_succ]; rfl))
                      | (refine mix3_off rfl rfl (mix3_norm (a' := ?_) ?_ ?_)
                         rotate_left
                         focus (simp only [Act.put, List.getElem_toArray, List.getElem_cons_zero, List.getElem_cons_succ, List.setIfInBounds_toArray, List.set_cons_zero, List.set_cons_succ]; rfl)))
                    refine mix3_done ?_
                    clear HK4 HK6 HT Hg Hs
                    have b1 := (cell_at HG.out 1 rfl).1
                    have b2 := (cell_at HG.out 2 rfl).1
                    have b4 := (cell_at HG.out 4 rfl).1
                    have hxlt : x < w6.heap.size := (Array.getElem?_eq_some_iff.1 HG.out).1
                    have Hx6 := Lib.hid hxlt
                    obtain ⟨F3, hp3, _⟩ := HT6.out.p hxlt
                    obtain ⟨F4, hr3, _⟩ := HT6.out.r hxlt
                    have HL := Lib.hid (pLast_any hp3 Hok6.out y)
                    have HRL := Lib.hid (rLast_any hr3 Hok6.out y)
                    have HI := Lib.hid (pImage_any hp3 Hok6.out ep)
                    generalize lastP τ.m y = lp at HL HRL
                    generalize hasP τ.m.length y = hh at HL HRL
                    clear hp3 hr3 hxlt
                    go_wp2_with fail
                    refine HL.out.mono ?_
                    rintro e w7 ⟨rfl, rfl⟩
                    go_wp2_with fail
                    refine HRL.out.mono ?_
                    rintro e w7 ⟨rfl, rfl⟩
                    go_wp2_with fail
                    refine HI.out.mono ?_
                    rintro e w7 ⟨A7, c7, rfl, h7⟩
                    have HT7 := Lib.hid (HT6.out.below h7.2.2)
                    have Hx7 := Lib.hid (Nat.lt_of_lt_of_le Hx6.out h7.2.2.size)
                    have b1 := (h7.2.2.cell (p := ⟨x, 1, none⟩) Hx6.out).trans b1
                    have b2 := (h7.2.2.cell (p := ⟨x, 2, none⟩) Hx6.out).trans b2
                    have b4 := (h7.2.2.cell (p := ⟨x, 4, none⟩) Hx6.out).trans b4
                    obtain ⟨F5, hr7, _⟩ := HT7.out.r Hx7.out
                    have HRI := Lib.hid (rImage_any hr7 Hok6.out ep)
                    have H7 := Lib.hid h7.1.reads
                    have Hil := Lib.hid (show (imageL τ.e ep).length ≤ 100000 by
                      unfold imageL imgFind
                      cases hf : τ.e.find? (fun m => m.1 == ep) with
                      | none => simp
                      | some m => have := Hok6.out.i m (List.mem_of_find?_eq_some hf); simp; omega)
                    generalize imageL τ.e ep = il at HI HRI H7 Hil
                    generalize imageE τ.e ep = ie at HI HRI
                    clear h7 hr7 HI HL HRL HG Hx6 HT6
                    go_wp2_with fail
                    refine HRI.out.mono ?_
                    rintro e w8 ⟨A8, c8, rfl, hr8, rfl⟩
                    have H8 := Lib.hid hr8
                    clear hr8 HRI b4
                    go_wp2_with fail
                    have hbd : Below w7.heap.size w7 w7.drew := (Below.refl w7.heap.size w7).drew
                    obtain ⟨F6, hp7, _⟩ := (HT7.out.below hbd).p Hx7.out
                    have HM := Lib.hid (pMay_any hp7 Hok6.out y z)
                    have q1 := fun w' (hk : KeepsBut [] w7.drew w') => hk.cell (p := ⟨x, 1, none⟩) b1 (by simp)
                    have q2 := fun w' (hk : KeepsBut [] w7.drew w') => hk.cell (p := ⟨x, 2, none⟩) b2 (by simp)
                    clear hbd hp7 b1 b2
                    refine wp_region_mix3 (KeepsBut []) (KeepsBut.refl []) (KeepsBut.trans []) [] [(0, 0), (0, 1), (0, 2), (0, 3), (0, 4), (0, 5), (0, 6), (0, 7), (0, 8), (0, 9), (0, 10), (0, 12), (0, 15), (0, 16), (0, 18), (1, 11), (1, 13), (1, 17), (1, 19), (2, 14), (2, 20), (0, 21), (0, 22), (0, 23), (0, 24), (0, 25), (2, 26), (0, 27), (0, 28), (0, 29), (0, 30), (0, 31), (0, 32), (0, 33), (0, 34), (0, 35), (0, 37), (0, 38), (0, 39), (1, 40), (2, 36), (2, 41), (0, 42), (0, 43)] (by kernel_rfl) (by kernel_rfl) (fun d _ _ _ _ h => by cases d <;> exact h) ?_
                    repeat (first
                      | (refine mix3_free (v := ?_) rfl rfl ?_ (mix3_norm (a' := ?_) ?_ ?_)
                         rotate_left
                         focus (intro w'; go_simp; first | done | (with_reducible rfl))
                         rotate_left
                         focus (simp only [Act.put, List.getElem_toArray, List.getElem_cons_zero, List.getElem_cons_succ, List.setIfInBounds_toArray, List.set_cons_zero, List.set_cons_succ]; rfl))
                      | (refine mix3_pure (v := ?_) rfl rfl ?_ (mix3_norm (a' := ?_) ?_ ?_)
                         rotate_left
                         focus (intro w' hR; go_simp; first | done | (with_reducible rfl))
                         rotate_left
                         focus (simp only [Act.put, List.getElem_toArray, List.getElem_cons_zero, List.getElem_cons_succ, List.setIfInBounds_toArray, List.set_cons_zero, List.set_cons_succ]; rfl))
                      | (refine mix3_freeOff rfl rfl (mix3_norm (a' := ?_) ?_ ?_)
                         rotate_left
                         focus (simp only [Act.put, List.getElem_toArray, List.getElem_cons_zero, List.getElem_cons_succ, List.setIfInBounds_toArray, List.set_cons_zero, List.set_cons_succ]; rfl))
                      | (refine mix3_off rfl rfl (mix3_norm (a' := ?_) ?_ ?_)
                         rotate_left
                         focus (simp only [Act.put, List.getElem_toArray, List.getElem_cons_zero, List.getElem_cons_succ, List.setIfInBounds_toArray, List.set_cons_zero, List.set_cons_succ]; rfl)))
                    clear q1 q2
                    refine mix3_eff rfl ?_
                    simp only [List.getElem_toArray, List.getElem_cons_zero, List.getElem_cons_succ]
                    go_wp2_with fail
                    refine HM.out.mono ?_
                    rintro e w8 ⟨rfl, hb8⟩
                    have hb8' : Below w7.heap.size w7 w8 := ((Below.refl w7.heap.size w7).drew).trans hb8
                    have HT8 := Lib.hid (HT7.out.below hb8')
                    have Hx8 := Lib.hid (Nat.lt_of_lt_of_le Hx7.out hb8.size)
                    have HK8 := Lib.hid (KeepsBut.of_below (M := []) hb8)
                    have HTx := Lib.hid (texts_any A7 A8 il il c7 c8 w8 (H7.out.below hb8') (H8.out.below hb8') Hil.out)
                    rw [decide_eq_true rfl] at HTx
                    obtain ⟨F7, hr8, _⟩ := HT8.out.r Hx8.out
                    have HH := Lib.hid (rHas_any hr8 Hok6.out y z)
                    generalize mayP τ.m y z = mp at HM HH
                    clear hb8 hb8' hr8 H7 H8 HT7 Hx7
                    go_wp2_with fail
                    refine mixQ3_normal HK8.out rfl ?_
                    refine mix3_eff rfl ?_
                    simp only [List.getElem_toArray, List.getElem_cons_zero, List.getElem_cons_succ]
                    go_wp2_with fail
                    refine HH.out.mono ?_
                    rintro e w9 ⟨rfl, rfl⟩
                    clear HK8 HM HH
                    go_wp2_with fail
                    refine mixQ3_normal (KeepsBut.refl [] _) rfl ?_
                    repeat (first
                      | (refine mix3_free (v := ?_) rfl rfl ?_ (mix3_norm (a' := ?_) ?_ ?_)
                         rotate_left
                         focus (intro w'; go_simp; first | done | (with_reducible rfl))
                         rotate_left
                         focus (simp only [Act.put, List.getElem_toArray, List.getElem_cons_zero, List.getElem_cons_succ, List.setIfInBounds_toArray, List.set_cons_zero, List.set_cons_succ]; rfl))
                      | (refine mix3_pure (v := ?_) rfl rfl ?_ (mix3_norm (a' := ?_) ?_ ?_)
                         rotate_left
                         focus (intro w' hR; go_simp; first | done | (with_reducible rfl))
                         rotate_left
                         focus (simp only [Act.put, List.getElem_toArray, List.getElem_cons_zero, List.getElem_cons_succ, List.setIfInBounds_toArray, List.set_cons_zero, List.set_cons_succ]; rfl))
                      | (refine mix3_freeOff rfl rfl (mix3_norm (a' := ?_) ?_ ?_)
                         rotate_left
                         focus (simp only [Act.put, List.getElem_toArray, List.getElem_cons_zero, List.getElem_cons_succ, List.setIfInBounds_toArray, List.set_cons_zero, List.set_cons_succ]; rfl))
                      | (refine mix3_off rfl rfl (mix3_norm (a' := ?_) ?_ ?_)
                         rotate_left
                         focus (simp only [Act.put, List.getElem_toArray, List.getElem_cons_zero, List.getElem_cons_succ, List.setIfInBounds_toArray, List.set_cons_zero, List.set_cons_succ]; rfl)))
                    refine mix3_eff rfl ?_
                    simp only [List.getElem_toArray, List.getElem_cons_zero, List.getElem_cons_succ]
                    go_wp2_with fail
                    refine HTx.out.mono ?_
                    rintro e w9 ⟨rfl, hb9⟩
                    have HT9 := Lib.hid (HT8.out.below hb9)
                    have Hx9 := Lib.hid (Nat.lt_of_lt_of_le Hx8.out hb9.size)
                    have HK9 := Lib.hid (KeepsBut.of_below (M := []) hb9)
                    obtain ⟨F8, hp9, _⟩ := HT9.out.p Hx9.out
                    obtain ⟨F9, hr9, _⟩ := HT9.out.r Hx9.out
                    obtain ⟨E, ce, e1, hE⟩ := hr9.eps
                    have HE := Lib.hid hE
                    have HEp := Lib.hid (pEpochs_any hp9 Hok6.out)
                    have Hel := Lib.hid (show (τ.e.map (·.1)).length ≤ 100000 by rw [List.length_map]; have := Hok6.out.e; have := Hok6.out.n.2; omega)
                    clear hb9 hp9 hr9 hE HTx HT8 Hx8
                    go_wp2_with fail
                    refine mixQ3_normal HK9.out rfl ?_
                    have q3 := fun w' (hk : KeepsBut [] w9 w') => hk.cell (p := ⟨g', 1, none⟩) e1 (by simp)
                    repeat (first
                      | (refine mix3_free (v := ?_) rfl rfl ?_ (mix3_norm (a' := ?_) ?_ ?_)
                         rotate_left
                         focus (intro w'; go_simp; first | done | (with_reducible rfl))
                         rotate_left
                         focus (simp only [Act.put, List.getElem_toArray, List.getElem_cons_zero, List.getElem_cons_succ, List.setIfInBounds_toArray, List.set_cons_zero, List.set_cons_succ]; rfl))
                      | (refine mix3_pure (v := ?_) rfl rfl ?_ (mix3_norm (a' := ?_) ?_ ?_)
                         rotate_left
                         focus (intro w' hR; go_simp; first | done | (with_reducible rfl))
                         rotate_left
                         focus (simp only [Act.put, List.getElem_toArray, List.getElem_cons_zero, List.getElem_cons_succ, List.setIfInBounds_toArray, List.set_cons_zero, List.set_cons_succ]; rfl))
                      | (refine mix3_freeOff rfl rfl (mix3_norm (a' := ?_) ?_ ?_)
                         rotate_left
                         focus (simp only [Act.put, List.getElem_toArray, List.getElem_cons_zero, List.getElem_cons_succ, List.setIfInBounds_toArray, List.set_cons_zero, List.set_cons_succ]; rfl))
                      | (refine mix3_off rfl rfl (mix3_norm (a' := ?_) ?_ ?_)
                         rotate_left
                         focus (simp only [Act.put, List.getElem_toArray, List.getElem_cons_zero, List.getElem_cons_succ, List.setIfInBounds_toArray, List.set_cons_zero, List.set_cons_succ]; rfl)))
                    clear q3 e1 HK9
                    refine mix3_eff rfl ?_
                    simp only [List.getElem_toArray, List.getElem_cons_zero, List.getElem_cons_succ]
                    go_wp2_with fail
                    refine HEp.out.mono ?_
                    rintro e w10 ⟨A10, c10, rfl, h10⟩
                    have HT10 := Lib.hid (HT9.out.below h10.2.2)
                    have HK10 := Lib.hid (KeepsBut.of_below (M := []) h10.2.2)
                    have HNu := Lib.hid (numbers26_any A10 E (τ.e.map (·.1)) (τ.e.map (·.1)) c10 ce w10 h10.1.reads (by have := HE.out.below h10.2.2; rw [← List.length_map (f := (·.1))] at this; exact this) Hel.out)
                    rw [decide_eq_true rfl, List.length_map] at HNu
                    clear h10 HEp HT9 Hx9 HE
                    go_wp2_with fail
                    refine mixQ3_normal HK10.out rfl ?_
                    refine mix3_eff rfl ?_
                    simp only [List.getElem_toArray, List.getElem_cons_zero, List.getElem_cons_succ]
                    go_wp2_with fail
                    refine HNu.out.mono ?_
                    rintro e w11 ⟨rfl, hb11⟩
                    have HT11 := Lib.hid (HT10.out.below hb11)
                    have HK11 := Lib.hid (KeepsBut.of_below (M := []) hb11)
                    clear hb11 HNu HT10 HK10
                    go_wp2_with fail
                    refine mixQ3_normal HK11.out rfl ?_
                    repeat (first
                      | (refine mix3_free (v := ?_) rfl rfl ?_ (mix3_norm (a' := ?_) ?_ ?_)
                         rotate_left
                         focus (intro w'; go_simp; first | done | (with_reducible rfl))
                         rotate_left
                         focus (simp only [Act.put, List.getElem_toArray, List.getElem_cons_zero, List.getElem_cons_succ, List.setIfInBounds_toArray, List.set_cons_zero, List.set_cons_succ]; rfl))
                      | (refine mix3_pure (v := ?_) rfl rfl ?_ (mix3_norm (a' := ?_) ?_ ?_)
                         rotate_left
                         focus (intro w' hR; go_simp; first | done | (with_reducible rfl))
                         rotate_left
                         focus (simp only [Act.put, List.getElem_toArray, List.getElem_cons_zero, List.getElem_cons_succ, List.setIfInBounds_toArray, List.set_cons_zero, List.set_cons_succ]; rfl))
                      | (refine mix3_freeOff rfl rfl (mix3_norm (a' := ?_) ?_ ?_)
                         rotate_left
                         focus (simp only [Act.put, List.getElem_toArray, List.getElem_cons_zero, List.getElem_cons_succ, List.setIfInBounds_toArray, List.set_cons_zero, List.set_cons_succ]; rfl))
                      | (refine mix3_off rfl rfl (mix3_norm (a' := ?_) ?_ ?_)
                         rotate_left
                         focus (simp only [Act.put, List.getElem_toArray, List.getElem_cons_zero, List.getElem_cons_succ, List.setIfInBounds_toArray, List.set_cons_zero, List.set_cons_succ]; rfl)))
                    refine mix3_done ?_
                    clear HK11
                    go_wp2_with fail
                    case roundEnd =>
                      exact ⟨⟨k + 1, τ, by omega, by push_cast; rfl, Lib.hid ⟨_, HT11.out⟩, Hok6⟩, by simp only [intOf]; omega⟩
        · obtain rfl : k = ls.length := by omega
          have HK := Lib.hid (known26_any wr)
          go_wp2_with fail
          refine HK.out.mono ?_
          rintro e w6 ⟨rfl, hb6⟩
          have Hb := Lib.hid (HT.out.b.trans (hb6.mono HT.out.le))
          clear hb6
          go_wp2_with fail
          go_ret
          exact ⟨rfl, Hb.out⟩
end Go.Proofs.Ytiolfnnkkflaiaa
