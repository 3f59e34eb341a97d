/- The law on what sectors have last. -/
import Derived.Test.YtiolfnnkkflaiaaPast11
import Derived.Test.YtiolfnnkkflaiaaPActs
open Go.RowKit
namespace Go.Proofs.Ytiolfnnkkflaiaa

theorem PastP.ne {w : World} {g : Nat} {F : Nat → Prop} {σ : Ps} (h : PastP w g F σ) : ∀ l ∈ σ.m, l ≠ [] := by
  obtain ⟨A, c, T, B, d, I, hM, rfl, hF⟩ := h
  intro l hl
  simp only [texts, List.mem_map] at hl
  obtain ⟨t, ht, rfl⟩ := hl
  obtain ⟨k, hk, rfl⟩ := List.getElem_of_mem ht
  have := (hM.tab.lies k hk).ne
  intro e; rw [e] at this; simp at this
theorem hasS_last {l : List ByteArray} (h : l ≠ []) : hasS l (lastS l) = true := by
  unfold hasS lastS
  rw [List.any_eq_true]
  refine ⟨l.getLast h, List.getLast_mem h, ?_⟩
  rw [List.getLastD_eq_getLast?, List.getLast?_eq_some_getLast h]
  simp
theorem crashOk_last : ∀ (m : List (List ByteArray)), (∀ l ∈ m, l ≠ []) → crashOk m (m.map lastS) = true
  | [], _ => rfl
  | x :: m, h => by rw [List.map_cons, crashOk_cons, hasS_last (h x (by simp)), crashOk_last m (fun l hl => h l (by simp [hl]))]; rfl
theorem crash_last {m : List (List ByteArray)} (h : ∀ l ∈ m, l ≠ []) : crashE m (m.map lastS) = 0 ∧ crashM m (m.map lastS) = flushM m := by
  have h1 : crashE m (m.map lastS) = 0 := by unfold crashE; rw [if_neg (by simp), if_pos (crashOk_last m h)]
  refine ⟨h1, ?_⟩
  unfold crashM flushM
  rw [if_pos h1, List.map_map]; rfl

/-- Two pasts, that hold the same, in blocks that are new since w0. -/
def Two (B0 : Nat) (w0 w : World) (g g' : Nat) (σ τ : Ps) : Prop := ∃ F F', PastP w g F σ ∧ PastP w g' F' τ ∧ (∀ i, F i → ¬ F' i) ∧ (∀ i, F i → B0 ≤ i) ∧ (∀ i, F' i → B0 ≤ i) ∧ Below B0 w0 w ∧ B0 ≤ w.heap.size
section
variable {B0 : Nat} {w0 w w1 : World} {g g' : Nat} {σ σ1 τ τ1 : Ps}
theorem Two.first (h : Two B0 w0 w g g' σ τ) : ∃ F, PastP w g F σ ∧ ∀ w1 σ1, PastPost w g F σ1 w1 → Two B0 w0 w1 g g' σ1 τ := by
  obtain ⟨F, F', h1, h2, hd, hF, hF', hb, hB⟩ := h
  refine ⟨F, h1, fun w1 σ1 hp => ?_⟩
  obtain ⟨G, g1, g2, g3⟩ := hp
  refine ⟨G, F', g1, h2.chg g3 (fun i hi hf => hd i hf hi), fun i hi hf => ?_, fun i hi => ?_, hF', hb.trans (g3.below (fun i hi hf => by have := hF i hf; omega) hB), Nat.le_trans hB g3.size⟩
  · rcases g2 i hi with h3 | h3
    · exact hd i h3 hf
    · have := h2.foot i hf; omega
  · rcases g2 i hi with h3 | h3
    · exact hF i h3
    · omega
theorem Two.swap (h : Two B0 w0 w g g' σ τ) : Two B0 w0 w g' g τ σ := by
  obtain ⟨F, F', h1, h2, hd, hF, hF', hb, hB⟩ := h
  exact ⟨F', F, h2, h1, fun i hi hf => hd i hf hi, hF', hF, hb, hB⟩
theorem Two.below (h : Two B0 w0 w g g' σ τ) (hb1 : Below w.heap.size w w1) : Two B0 w0 w1 g g' σ τ := by
  obtain ⟨F, F', h1, h2, hd, hF, hF', hb, hB⟩ := h
  exact ⟨F, F', h1.below hb1, h2.below hb1, hd, hF, hF', hb.trans (hb1.mono hB), Nat.le_trans hB hb1.size⟩
theorem Two.b (h : Two B0 w0 w g g' σ τ) : Below B0 w0 w := h.choose_spec.choose_spec.2.2.2.2.2.1
theorem Two.le (h : Two B0 w0 w g g' σ τ) : B0 ≤ w.heap.size := h.choose_spec.choose_spec.2.2.2.2.2.2
end

theorem writeM_length (m : List (List ByteArray)) (i : Int) (s : ByteArray) : (writeM m i s).length = m.length := by unfold writeM; split <;> simp

set_option maxHeartbeats 4000000 in
set_option maxRecDepth 100000 in
theorem pastLast_law (A : Option Addr) (l : List ByteArray) (c : Nat) (A' : Option Addr) (ls : List PA) (c' : Nat) (i : Int) (s : ByteArray) (W : World) (hr : Reads W 1 A l.length (sts l)) (ha : PActs W A' ls) :
    Calls Try.prog 6 #[.slice A l.length c, .slice A' ls.length c', .int .i64 i, .string s] W fun e w' => e = .returned (.bool true) ∧ Below W.heap.size W w' := by
  have Hr := Lib.hid hr
  have Ha := Lib.hid ha
  clear hr ha
  have HF := Lib.hid (few26_any W A l c Hr.out)
  cases hfew : few26 l with
  | false =>
    rw [hfew] at HF
    have HK := Lib.hid (known26_any W)
    clear hfew
    go_enter Try.func6, Try.ntmps6
    go_wp2_with fail
    refine HF.out.mono ?_
    rintro e w1 ⟨rfl, rfl⟩
    go_wp2_with fail
    refine HK.out.mono ?_
    rintro e w6 ⟨rfl, hb6⟩
    have Hb := Lib.hid hb6
    clear hb6
    go_wp2_with fail
    go_ret
    exact ⟨rfl, Hb.out⟩
  | true =>
    rw [hfew] at HF
    have hl20 := few26_len hfew
    clear hfew
    by_cases h60 : 60 < ls.length
    · have HK := Lib.hid (known26_any W)
      go_enter Try.func6, Try.ntmps6
      go_wp2_with fail
      refine HF.out.mono ?_
      rintro e w1 ⟨rfl, rfl⟩
      go_wp2_with fail
      refine HK.out.mono ?_
      rintro e w6 ⟨rfl, hb6⟩
      have Hb := Lib.hid hb6
      clear hb6
      go_wp2_with fail
      go_ret
      exact ⟨rfl, Hb.out⟩
    · have HN := Lib.hid (pNew_any W A c l Hr.out (by omega))
      go_enter Try.func6, Try.ntmps6
      go_wp2_with fail
      refine HF.out.mono ?_
      rintro e w1 ⟨rfl, rfl⟩
      go_wp2_with fail
      refine HN.out.mono ?_
      rintro e w1 ⟨g, F, rfl, hP, hF, hb1⟩
      have HP := Lib.hid hP
      have HFo := Lib.hid hF
      have Hb1 := Lib.hid hb1
      have HN2 := Lib.hid (pNew_any w1 A c l (Hr.out.below hb1) (by omega))
      clear hP hF hb1 HN HF
      go_wp2_with fail
      refine HN2.out.mono ?_
      rintro e w2 ⟨g', F', rfl, hP2, hF2, hb2⟩
      have HT := Lib.hid (show Two W.heap.size W w2 g g' ⟨newM l, []⟩ ⟨newM l, []⟩ from ⟨F, F', HP.out.below hb2, hP2, fun i hi hf => by have h1 := HP.out.foot i hi; have h2 := hF2 i hf; omega, HFo.out, fun i hi => Nat.le_trans Hb1.out.size (hF2 i hi), Hb1.out.trans (hb2.mono Hb1.out.size), Nat.le_trans Hb1.out.size hb2.size⟩)
      clear hP2 hF2 hb2 HN2 HP HFo Hb1
      go_wp2_with fail
      go_loopw [11] (fun v wr => ∃ (k : Nat) (σ : Ps), k ≤ ls.length ∧ v = .int .i64 k ∧ Hid (Two W.heap.size W wr g g' σ σ) ∧ Hid (okP (k + 1) σ ∧ σ.m.length = l.length ∧ σ.e = [])) (fun v _ => ls.length - (intOf v).toNat)
      case atStart => exact ⟨0, _, Nat.zero_le _, rfl, HT, Lib.hid ⟨okP.new (by omega) (by omega), by simp [newM], rfl⟩⟩
      case round =>
        obtain ⟨k, σ, hk, rfl, HT, Hok⟩ := hrel
        by_cases hlt : k < ls.length
        · obtain ⟨ad, rfl, _, x1, x2, _, _⟩ := pa_cells Ha.out.1 hlt
          have hkI : (k : Int) < (ls.length : Int) := by omega
          generalize ls[k].i = y at x1
          generalize ls[k].d = z at x2
          have l1 := World.block_lt_of_cell? _ _ x1
          have l2 := World.block_lt_of_cell? _ _ x2
          have a1 := (HT.out.b.cell (p := ⟨(ad.add (k * 5)).block, (ad.add (k * 5)).off + 1, none⟩) l1).trans x1
          have a2 := (HT.out.b.cell (p := ⟨(ad.add (k * 5)).block, (ad.add (k * 5)).off + 2, none⟩) l2).trans x2
          have X := Lib.hid (And.intro x1 (And.intro x2 (And.intro l1 l2)))
          clear x1 x2 l1 l2
          by_cases h200 : 200 < z.size
          · have HK := Lib.hid (known26_any wr)
            go_wp2_with fail
            refine HK.out.mono ?_
            rintro e w6 ⟨rfl, hb6⟩
            have Hb := Lib.hid (HT.out.b.trans (hb6.mono HT.out.le))
            clear hb6
            go_wp2_with fail
            go_ret
            exact ⟨rfl, Hb.out⟩
          · go_wp2_with fail
            have q1 := fun w' (hk : KeepsBut [] wr.drew w') => hk.cell (p := ⟨(ad.add (k * 5)).block, (ad.add (k * 5)).off + 1, none⟩) a1 (by simp)
            have q2 := fun w' (hk : KeepsBut [] wr.drew w') => hk.cell (p := ⟨(ad.add (k * 5)).block, (ad.add (k * 5)).off + 2, none⟩) a2 (by simp)
            refine wp_region_mix3 (KeepsBut []) (KeepsBut.refl []) (KeepsBut.trans []) [11] [(0, 0), (0, 1), (0, 2), (0, 3), (0, 4), (0, 6), (0, 7), (0, 8), (0, 9), (1, 5), (1, 10), (2, 11)] (by kernel_rfl) (by kernel_rfl) (fun d _ _ _ _ h => by cases d <;> exact h) ?_
            repeat (first
              | (refine mix3_free (v := ?_) rfl rfl ?_ (mix3_norm (a' := ?_) ?_ ?_)
                 rotate_left
                 focus (intro w'; go_simp; first | done | (with_reducible rfl))
                 rotate_left
                 focus (simp only [Act.put, List.getElem_toArray, List.getElem_cons_zero, List.getElem_cons_succ, List.setIfInBounds_toArray, List.set_cons_zero, List.set_cons_succ]; rfl))
              | (refine mix3_pure (v := ?_) rfl rfl ?_ (mix3_norm (a' := ?_) ?_ ?_)
                 rotate_left
                 focus (intro w' hR; go_simp; first | done | (with_reducible rfl))
                 rotate_left
                 focus (simp only [Act.put, List.getElem_toArray, List.getElem_cons_zero, List.getElem_cons_succ, List.setIfInBounds_toArray, List.set_cons_zero, List.set_cons_succ]; rfl))
              | (refine mix3_freeOff rfl rfl (mix3_norm (a' := ?_) ?_ ?_)
                 rotate_left
                 focus (simp only [Act.put, List.getElem_toArray, List.getElem_cons_zero, List.getElem_cons_succ, List.setIfInBounds_toArray, List.set_cons_zero, List.set_cons_succ]; rfl))
              | (refine mix3_off rfl rfl (mix3_norm (a' := ?_) ?_ ?_)
                 rotate_left
                 focus (simp only [Act.put, List.getElem_toArray, List.getElem_cons_zero, List.getElem_cons_succ, List.setIfInBounds_toArray, List.set_cons_zero, List.set_cons_succ]; rfl)))
            clear q1 q2
            obtain ⟨F1, hp1, hn1⟩ := (HT.out.below ((Below.refl wr.heap.size wr).drew)).first
            have HW := Lib.hid (pWrite_any hp1 Hok.out.1 y z)
            have Hn1 := Lib.hid hn1
            have Hle := Lib.hid (show k + 1 + 1 ≤ 90000 by omega)
            clear hp1 hn1
            refine mix3_eff rfl ?_
            simp only [List.getElem_toArray, List.getElem_cons_zero, List.getElem_cons_succ]
            go_wp2_with fail
            refine HW.out.mono ?_
            rintro e w3 ⟨rfl, h3⟩
            have HT3 := Lib.hid (Hn1.out _ _ h3)
            clear h3 HW Hn1
            go_wp2_with fail
            refine mixQ3_last (by simp) rfl ?_
            refine mix3_done ?_
            have b1 := (HT3.out.b.cell (p := ⟨(ad.add (k * 5)).block, (ad.add (k * 5)).off + 1, none⟩) X.out.2.2.1).trans X.out.1
            have b2 := (HT3.out.b.cell (p := ⟨(ad.add (k * 5)).block, (ad.add (k * 5)).off + 2, none⟩) X.out.2.2.2).trans X.out.2.1
            clear a1 a2
            go_wp2_with fail
            have q1 := fun w' (hk : KeepsBut [] w3.drew w') => hk.cell (p := ⟨(ad.add (k * 5)).block, (ad.add (k * 5)).off + 1, none⟩) b1 (by simp)
            have q2 := fun w' (hk : KeepsBut [] w3.drew w') => hk.cell (p := ⟨(ad.add (k * 5)).block, (ad.add (k * 5)).off + 2, none⟩) b2 (by simp)
            refine wp_region_mix3 (KeepsBut []) (KeepsBut.refl []) (KeepsBut.trans []) [11] [(0, 0), (0, 1), (0, 2), (0, 3), (0, 4), (0, 6), (0, 7), (0, 8), (0, 9), (1, 5), (1, 10), (2, 11)] (by kernel_rfl) (by kernel_rfl) (fun d _ _ _ _ h => by cases d <;> exact h) ?_
            repeat (first
              | (refine mix3_free (v := ?_) rfl rfl ?_ (mix3_norm (a' := ?_) ?_ ?_)
                 rotate_left
                 focus (intro w'; go_simp; first | done | (with_reducible rfl))
                 rotate_left
                 focus (simp only [Act.put, List.getElem_toArray, List.getElem_cons_zero, List.getElem_cons_succ, List.setIfInBounds_toArray, List.set_cons_zero, List.set_cons_succ]; rfl))
              | (refine mix3_pure (v := ?_) rfl rfl ?_ (mix3_norm (a' := ?_) ?_ ?_)
                 rotate_left
                 focus (intro w' hR; go_simp; first | done | (with_reducible rfl))
                 rotate_left
                 focus (simp only [Act.put, List.getElem_toArray, List.getElem_cons_zero, List.getElem_cons_succ, List.setIfInBounds_toArray, List.set_cons_zero, List.set_cons_succ]; rfl))
              | (refine mix3_freeOff rfl rfl (mix3_norm (a' := ?_) ?_ ?_)
                 rotate_left
                 focus (simp only [Act.put, List.getElem_toArray, List.getElem_cons_zero, List.getElem_cons_succ, List.setIfInBounds_toArray, List.set_cons_zero, List.set_cons_succ]; rfl))
              | (refine mix3_off rfl rfl (mix3_norm (a' := ?_) ?_ ?_)
                 rotate_left
                 focus (simp only [Act.put, List.getElem_toArray, List.getElem_cons_zero, List.getElem_cons_succ, List.setIfInBounds_toArray, List.set_cons_zero, List.set_cons_succ]; rfl)))
            clear q1 q2 b1 b2
            obtain ⟨F1, hp1, hn1⟩ := (HT3.out.swap.below ((Below.refl w3.heap.size w3).drew)).first
            have HW := Lib.hid (pWrite_any hp1 Hok.out.1 y z)
            have Hn1 := Lib.hid hn1
            have Hok2 := Lib.hid (show okP (k + 1 + 1) ⟨writeM σ.m y z, σ.e⟩ ∧ (writeM σ.m y z).length = l.length ∧ σ.e = [] from ⟨Hok.out.1.write Hle.out y z, by rw [writeM_length]; exact Hok.out.2.1, Hok.out.2.2⟩)
            clear hp1 hn1
            refine mix3_eff rfl ?_
            simp only [List.getElem_toArray, List.getElem_cons_zero, List.getElem_cons_succ]
            go_wp2_with fail
            refine HW.out.mono ?_
            rintro e w4 ⟨rfl, h4⟩
            have HT4 := Lib.hid (Hn1.out _ _ h4).swap
            clear h4 HW Hn1
            go_wp2_with fail
            refine mixQ3_last (by simp) rfl ?_
            refine mix3_done ?_
            go_wp2_with fail
            case roundEnd =>
              exact ⟨⟨k + 1, _, by omega, by push_cast; rfl, HT4, Hok2⟩, by simp only [intOf]; omega⟩
        · obtain rfl : k = ls.length := by omega
          have Hne := Lib.hid (show ∀ x ∈ σ.m, x ≠ [] by obtain ⟨_, _, h1, _⟩ := HT.out; exact h1.ne)
          have hsl := Hok.out.2.1
          have Hok90 := Lib.hid (Hok.out.1.mono (k := 90000) (by omega) (by omega))
          have Hse := Lib.hid Hok.out.2.2
          go_wp2_with fail
          obtain ⟨wa, rfl⟩ : ∃ wa : World, wa = wr := ⟨_, rfl⟩
          clear Hok
          go_loopw [12, 13] (fun v j wr => ∃ (k : Nat) (A1 : Option Addr) (c1 : Nat) (xs : List ByteArray), k ≤ l.length ∧ v = .slice A1 xs.length c1 ∧ j = .int .i64 k ∧ Hid (xs = (σ.m.map lastS).take k ∧ xs.length = k) ∧ Hid (StrOut wa wr A1 c1 xs)) (fun _ j _ => l.length - (intOf j).toNat)
          case atStart => exact ⟨0, none, 0, [], Nat.zero_le _, rfl, rfl, Lib.hid ⟨rfl, rfl⟩, Lib.hid (StrOut.nil _)⟩
          case round =>
            obtain ⟨k, A1, c1, xs, hk, rfl, rfl, HX, HS⟩ := hrel
            have HTr := Lib.hid (HT.out.below HS.out.2.2)
            by_cases hlt : k < l.length
            · have hks : k < σ.m.length := by omega
              obtain ⟨F1, hp1, _⟩ := HTr.out.first
              have HL := Lib.hid (pLast_any hp1 Hok90.out (k : Int))
              have HM := Lib.hid (pMay_any hp1 Hok90.out (k : Int) (lastS σ.m[k]))
              rw [show lastP σ.m (k : Int) = lastS σ.m[k] by unfold lastP; rw [if_pos (by unfold inP; omega), Int.toNat_natCast, List.getD_eq_getElem?_getD, List.getElem?_eq_getElem hks]; rfl, hasP_in (by unfold inP; omega)] at HL
              rw [show mayP σ.m (k : Int) (lastS σ.m[k]) = true by
                unfold mayP
                rw [decide_eq_true (by unfold inP; omega), Bool.true_and, Int.toNat_natCast, List.getD_eq_getElem?_getD, List.getElem?_eq_getElem hks]
                exact hasS_last (Hne.out _ (List.getElem_mem hks))] at HM
              have HX2 : Hid (xs ++ [lastS σ.m[k]] = (σ.m.map lastS).take (k + 1)) := Lib.hid (by rw [HX.out.1, List.take_succ_eq_append_getElem (by rw [List.length_map]; exact hks)]; simp)
              have Hlen2 := Lib.hid (show xs.length + 1 ≤ 100000 by have := HX.out.2; omega)
              generalize lastS σ.m[k] = x at HL HM HX2
              have hkI : (k : Int) < (l.length : Int) := by omega
              clear hp1
              go_wp2_with fail
              refine HL.out.mono ?_
              rintro e w3 ⟨rfl, rfl⟩
              rw [show ((0 : Nat) : Int) = 0 from rfl]
              go_wp2_with fail
              refine HM.out.mono ?_
              rintro e w4 ⟨rfl, hb4⟩
              have hb5 := (alloc1 w4 #[.string x] 9).1
              have HS2 := Lib.hid ((HS.out.keep hb4).keep hb5)
              have HR := Lib.hid (show Reads (w4.alloc (.cells #[.string x] 9)) 1 (some ⟨w4.heap.size, 0, none⟩) 1 (sts [x]) from Reads.of_block (n := 1) (heap_alloc_new w4 _) rfl)
              have Hsz := Lib.hid (show wa.heap.size ≤ w4.heap.size from Nat.le_trans HS.out.2.2.size hb4.size)
              clear hb4 hb5 HL HM
              go_wp2_with (at_builtin; refine wpList_append_st rfl (.tmp 89) (.tmp 91) rfl A1 c1 xs rfl HS2.out.1 (some ⟨w4.heap.size, 0, none⟩) 1 [x] 1 rfl rfl HR.out Hlen2.out ?_)
              intro A2 c4 w5 hrow hchg hblk
              have Hout := Lib.hid (HS2.out.grow hrow hchg (fun k hk => by
                rcases hblk k hk with h | h
                · exact .inl h
                · right; have := Hsz.out; omega))
              clear hrow hchg hblk
              go_wp2_with fail
              case roundEnd =>
                exact ⟨⟨k + 1, A2, c4, xs ++ [x], by omega, by simp, by push_cast; rfl, Lib.hid ⟨HX2.out, by simp [HX.out.2]⟩, Hout⟩, by simp only [intOf]; omega⟩
            · obtain rfl : k = l.length := by omega
              have HXl := Lib.hid (show xs = σ.m.map lastS by rw [HX.out.1, List.take_of_length_le]; simp; omega)
              obtain ⟨F1, F2, h1, h2, hd, hF1, hF2, hb, hB⟩ := HT.out
              have HFl := Lib.hid (pFlush_any (h1.below HS.out.2.2) Hok90.out)
              have H2 := Lib.hid (h2.below HS.out.2.2)
              have Hd := Lib.hid (And.intro hd (And.intro hF1 (And.intro hF2 (And.intro h1.foot (And.intro h2.foot (And.intro (hb.trans (HS.out.2.2.mono hB)) (Nat.le_trans hB HS.out.2.2.size)))))))
              clear h1 h2 hd hF1 hF2 hb hB
              go_wp2_with fail
              refine HFl.out.mono ?_
              rintro e w3 ⟨rfl, G, g1, g2, g3⟩
              have hr3 : SRow w3 A1 c1 xs := HS.out.1.chg g3 (fun k hk hf => by have h1 := HS.out.2.1 k hk; have h2 := Hd.out.2.2.2.1 k hf; omega)
              have h23 : PastP w3 g' F2 σ := H2.out.chg g3 (fun i hi hf => Hd.out.1 i hf hi)
              have HC := Lib.hid (pCrash_any h23 Hok90.out A1 c1 xs hr3.reads (fun _ k hk hf => by have h1 := HS.out.2.1 k hk; have h2 := Hd.out.2.2.2.2.1 k hf; omega) (by have := HX.out.2; omega))
              rw [HXl.out, (crash_last Hne.out).1, (crash_last Hne.out).2, ← HXl.out] at HC
              have HT3 := Lib.hid (show Two W.heap.size W w3 g' g σ ⟨flushM σ.m, σ.e⟩ from ⟨F2, G, h23, g1, fun i hi hf => by
                rcases g2 i hf with h | h
                · exact Hd.out.1 i h hi
                · have := H2.out.foot i hi; omega, Hd.out.2.2.1, fun i hi => by
                rcases g2 i hi with h | h
                · exact Hd.out.2.1 i h
                · exact Nat.le_trans Hd.out.2.2.2.2.2.2 h, Hd.out.2.2.2.2.2.1.trans (g3.below (fun i hi hf => by have := Hd.out.2.1 i hf; omega) Hd.out.2.2.2.2.2.2), Nat.le_trans Hd.out.2.2.2.2.2.2 g3.size⟩)
              have Hsep := Lib.hid (show ∀ w4, PastPost w3 g' F2 ⟨flushM σ.m, σ.e⟩ w4 → Two W.heap.size W w4 g' g ⟨flushM σ.m, σ.e⟩ ⟨flushM σ.m, σ.e⟩ from fun w4 ⟨J, j1, j2, j3⟩ => ⟨J, G, j1, g1.chg j3 (fun i hi hf => by
                rcases g2 i hi with h | h
                · exact Hd.out.1 i h hf
                · have := H2.out.foot i hf; omega), fun i hi hf => by
                rcases j2 i hi with h | h
                · rcases g2 i hf with h5 | h5
                  · exact Hd.out.1 i h5 h
                  · have := H2.out.foot i h; omega
                · have := g1.foot i hf; omega, fun i hi => by
                rcases j2 i hi with h | h
                · exact Hd.out.2.2.1 i h
                · exact Nat.le_trans HT3.out.le h, fun i hi => by
                rcases g2 i hi with h | h
                · exact Hd.out.2.1 i h
                · exact Nat.le_trans Hd.out.2.2.2.2.2.2 h, HT3.out.b.trans (j3.below (fun i hi hf => by have := Hd.out.2.2.1 i hf; omega) HT3.out.le), Nat.le_trans HT3.out.le j3.size⟩)
              clear g1 g2 g3 hr3 h23 HFl H2 Hd
              go_wp2_with fail
              refine HC.out.mono ?_
              rintro e w4 ⟨rfl, h4⟩
              have HT4 := Lib.hid (Hsep.out _ h4)
              obtain ⟨F4, F5, k1, k2, _⟩ := HT4.out
              have HokF := Hok90.out.flush
              have HM1 := Lib.hid (pMay_any k2 HokF i s)
              have K1 := Lib.hid (fun w5 hb => pMay_any (k1.below (w1 := w5) hb) HokF i s)
              simp only at HM1 K1
              generalize mayP (flushM σ.m) i s = r at HM1 K1
              clear h4 HC Hsep k1 k2 HokF
              rw [show ((0 : Nat) : Int) = 0 from rfl]
              go_wp2_with fail
              refine HM1.out.mono ?_
              rintro e w5 ⟨rfl, hb5⟩
              have HM2 := Lib.hid (K1.out w5 hb5)
              have Hb5 := Lib.hid (HT4.out.b.trans (hb5.mono HT4.out.le))
              have Hsz5 := Lib.hid (Nat.le_trans HT4.out.le hb5.size)
              clear hb5 K1 HM1
              go_wp2_with fail
              refine HM2.out.mono ?_
              rintro e w6 ⟨rfl, hb6⟩
              have Hb6 := Lib.hid (Hb5.out.trans (hb6.mono Hsz5.out))
              have Hsz6 := Lib.hid (Nat.le_trans Hsz5.out hb6.size)
              have HK := Lib.hid (known26_any w6)
              clear hb6 HM2
              go_wp2_with fail
              refine HK.out.mono ?_
              rintro e w7 ⟨rfl, hb7⟩
              have Hb := Lib.hid (Hb6.out.trans (hb7.mono Hsz6.out))
              clear hb7
              go_wp2_with fail
              go_ret
              exact ⟨rfl, Hb.out⟩
end Go.Proofs.Ytiolfnnkkflaiaa
