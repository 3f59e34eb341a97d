/- Pasts: what is few; lists of numbers; what must come of fixed calls. -/
import Derived.Test.YtiolfnnkkflaiaaPast10
import Derived.Test.YtiolfnnkkflaiaaDel8
open Go.RowKit
namespace Go.Proofs.Ytiolfnnkkflaiaa

def few26 (l : List ByteArray) : Bool := decide (l.length ≤ 20) && l.all fun s => decide (s.size ≤ 200)
theorem few26_long {l : List ByteArray} (h : 20 < l.length) : few26 l = false := by unfold few26; rw [decide_eq_false (by omega)]; rfl
theorem few26_bad {l : List ByteArray} {k : Nat} (hk : k < l.length) (h : 200 < l[k].size) : few26 l = false := by
  unfold few26
  rw [show (l.all fun s => decide (s.size ≤ 200)) = false from by rw [List.all_eq_false]; exact ⟨l[k], List.getElem_mem hk, by simp; omega⟩, Bool.and_false]
theorem few26_ok {l : List ByteArray} (h : l.length ≤ 20) (hk : ∀ k (hk : k < l.length), l[k].size ≤ 200) : few26 l = true := by
  unfold few26
  rw [decide_eq_true h, Bool.true_and, List.all_eq_true]
  intro s hs
  obtain ⟨k, hk2, rfl⟩ := List.getElem_of_mem hs
  exact decide_eq_true (hk k hk2)
theorem few26_len {l : List ByteArray} (h : few26 l = true) : l.length ≤ 20 := by
  unfold few26 at h
  simp only [Bool.and_eq_true, decide_eq_true_eq] at h
  exact h.1
set_option maxRecDepth 100000 in
theorem few26_any (w : World) (A : Option Addr) (l : List ByteArray) (c : Nat) (hr : Reads w 1 A l.length (sts l)) :
    Calls Try.prog 32 #[.slice A l.length c] w fun e w' => e = .returned (.bool (few26 l)) ∧ w = w' := by
  have Hr := Lib.hid hr
  clear hr
  by_cases hl : 20 < l.length
  · have H := Lib.hid (few26_long hl)
    go_enter Try.func32, Try.ntmps32
    go_wp2_with fail
    go_ret
    exact ⟨by rw [H.out]; rfl, rfl⟩
  · go_enter Try.func32, Try.ntmps32
    go_wp2_with fail
    go_loopw [3] (fun i wr => ∃ k : Nat, k ≤ l.length ∧ i = .int .i64 k ∧ Hid (∀ j (hj : j < l.length), j < k → l[j].size ≤ 200) ∧ Hid (w = wr)) (fun i _ => l.length - (intOf i).toNat)
    case atStart => exact ⟨0, Nat.zero_le _, rfl, Lib.hid (fun j _ hj => by omega), Lib.hid rfl⟩
    case round =>
      obtain ⟨k, hk, rfl, Hp, Hw⟩ := hrel
      have hw := Hw.out
      subst hw
      by_cases hlt : k < l.length
      · obtain ⟨ad, rfl, hc⟩ := str_cell Hr.out hlt
        by_cases hb : 200 < l[k].size
        · have H := Lib.hid (few26_bad hlt hb)
          generalize l[k] = b at hb hc
          go_wp2_with fail
          go_ret
          exact ⟨by rw [H.out]; rfl, rfl⟩
        · have H := Lib.hid (show ∀ j (hj : j < l.length), j < k + 1 → l[j].size ≤ 200 from fun j hj hjk => by
            by_cases h : j = k
            · subst h; omega
            · exact Hp.out j hj (by omega))
          generalize l[k] = b at hb hc
          go_wp2_with fail
          case roundEnd =>
            exact ⟨⟨k + 1, by omega, by push_cast; rfl, H, Lib.hid (by trivial)⟩, by simp only [intOf]; omega⟩
      · obtain rfl : k = l.length := by omega
        have H := Lib.hid (few26_ok (by omega) (fun j hj => Hp.out j hj hj))
        go_wp2_with fail
        go_ret
        exact ⟨by rw [H.out]; rfl, rfl⟩

set_option maxRecDepth 100000 in
theorem numbers26_any (A B : Option Addr) (l m : List Nat) (c d : Nat) (w : World) (hr : Reads w 1 A l.length (nvs l)) (hs : Reads w 1 B m.length (nvs m)) (hl : l.length ≤ 100000) :
    Calls Try.prog 60 #[.slice A l.length c, .slice B m.length d] w fun e w' => e = .returned (.bool (decide (l = m))) ∧ Below w.heap.size w w' := by
  have Hr := Lib.hid hr
  have Hs := Lib.hid hs
  clear hr hs
  by_cases hlm : l.length = m.length
  · have Hlm := Lib.hid hlm
    have hb : ((l.length : Int) != (m.length : Int)) = false := by simp [hlm]
    generalize hn : m.length = n at *
    have Hn := Lib.hid hn
    subst hlm
    clear hn
    go_enter Try.func60, Try.ntmps60
    go_wp2_with fail
    clear hb
    go_loopw [5] (fun i wr => ∃ k : Nat, k ≤ l.length ∧ i = .int .i64 k ∧ Hid (∀ j, j < k → l[j]? = m[j]?) ∧ Hid (Below w.heap.size w wr)) (fun i _ => l.length - (intOf i).toNat)
    case atStart => exact ⟨0, by omega, rfl, (fun j hj => by omega), Below.refl _ _⟩
    case round =>
      obtain ⟨k, hk, rfl, Hp, Hb⟩ := hrel
      by_cases hlt : k < l.length
      · have hlm : k < m.length := by rw [Hn.out]; exact hlt
        obtain ⟨ad, rfl, hc⟩ := num_cell (Hr.out.below Hb.out) hlt
        have Hs2 := Lib.hid (show Reads wr 1 B m.length (nvs m) from (Hn.out ▸ Hs.out).below Hb.out)
        obtain ⟨bd, rfl, hd⟩ := num_cell Hs2.out hlm
        have e1 : l[k]? = some l[k] := List.getElem?_eq_getElem hlt
        have e2 : m[k]? = some m[k] := List.getElem?_eq_getElem hlm
        generalize l[k] = x at hc e1
        generalize m[k] = y at hd e2
        have E1 := Lib.hid e1
        have E2 := Lib.hid e2
        clear e1 e2 hlm
        by_cases hxy : x = y
        · subst hxy
          go_wp2_with fail
          go_quiet (fail)
          clear hc hd
          go_wp2_with fail
          case roundEnd =>
            refine ⟨⟨k + 1, by omega, by push_cast; rfl, Lib.hid fun j hj => ?_, Lib.hid (Hb.out.trans ⟨rfl, rfl, rfl, Nat.le_refl _, fun _ _ => rfl⟩)⟩, by simp only [intOf]; omega⟩
            by_cases h : j = k
            · subst h; rw [E1.out, E2.out]
            · exact Hp.out j (by omega)
        · have hne : ((x : Int) != (y : Int)) = true := by rw [bne_iff_ne]; omega
          have Hd : Hid (decide (l = m) = false) := Lib.hid (decide_eq_false fun h => hxy (by have h1 := E1.out; rw [h, E2.out] at h1; exact (Option.some.inj h1).symm))
          clear hxy
          go_wp2_with fail
          go_quiet (fail)
          clear hc hd
          go_wp2_with fail
          go_ret
          exact ⟨by rw [Hd.out]; rfl, Hb.out.trans ⟨rfl, rfl, rfl, Nat.le_refl _, fun _ _ => rfl⟩⟩
      · obtain rfl : k = l.length := by omega
        have Hd : Hid (decide (l = m) = true) := Lib.hid (decide_eq_true (List.ext_getElem? fun j => by
          by_cases h : j < l.length
          · exact Hp.out j h
          · rw [List.getElem?_eq_none (by omega), List.getElem?_eq_none (by rw [Hn.out]; omega)]))
        go_wp2_with fail
        go_ret
        exact ⟨by rw [Hd.out]; rfl, Hb.out⟩
  · have hb : ((l.length : Int) != (m.length : Int)) = true := by rw [bne_iff_ne]; omega
    have Hd : Hid (decide (l = m) = false) := Lib.hid (decide_eq_false fun h => hlm (by rw [h]))
    clear hlm
    go_enter Try.func60, Try.ntmps60
    go_wp2_with fail
    go_ret
    exact ⟨by rw [Hd.out]; rfl, Below.refl _ _⟩

theorem zero_any (w : World) : Calls Try.prog 76 #[] w fun e w' => e = .returned (.string (fillS 0)) ∧ Below w.heap.size w w' := by
  have H := Lib.hid (fill_any 0 w)
  go_enter Try.func76, Try.ntmps76
  go_wp2_with fail
  refine H.out.mono ?_
  rintro e w1 ⟨rfl, hb⟩
  have Hb := Lib.hid hb
  clear hb
  go_wp2_with fail
  go_ret
  exact ⟨rfl, Hb.out⟩

theorem known_past : newM [fillS 0] = [[fillS 0]] ∧ writeE [[fillS 0]] 0 (fillS 1) = 0 ∧ writeM [[fillS 0]] 0 (fillS 1) = [[fillS 0, fillS 1]] ∧ mayP [[fillS 0, fillS 1]] 0 (fillS 0) = true ∧ mayP [[fillS 0, fillS 1]] 0 (fillS 1) = true ∧
    flushM [[fillS 0, fillS 1]] = [[fillS 1]] ∧ sealE [] 3 = 0 ∧ sealI [[fillS 1]] [] 3 = [(3, [fillS 1])] ∧ imageL [(3, [fillS 1])] 3 = [fillS 1] ∧ imageE [(3, [fillS 1])] 3 = 0 ∧ mayP [[fillS 1]] 0 (fillS 0) = false ∧ sealE [(3, [fillS 1])] 3 = 14 := by
  refine ⟨?_, ?_, ?_, ?_, ?_, ?_, ?_, ?_, ?_, ?_, ?_, ?_⟩ <;> decide +kernel

set_option maxHeartbeats 2000000 in
set_option maxRecDepth 100000 in
theorem known26_any (W : World) : Calls Try.prog 33 #[] W fun e w' => e = .returned (.bool true) ∧ Below W.heap.size W w' := by
  have H1 := Lib.hid (zero_any W)
  go_enter Try.func33, Try.ntmps33
  go_wp2_with fail
  refine H1.out.mono ?_
  rintro e w1 ⟨rfl, hb1⟩
  obtain ⟨hba, hga, _⟩ := alloc1 w1 #[.string (fillS 0)] 9
  have HR := Lib.hid (show Reads (w1.alloc (.cells #[.string (fillS 0)] 9)) 1 (some ⟨w1.heap.size, 0, none⟩) [fillS 0].length (sts [fillS 0]) from Reads.of_block (n := 1) hga rfl)
  have Hb1 := Lib.hid (hb1.trans (hba.mono hb1.size))
  clear hb1 hba hga H1
  have HN := Lib.hid (pNew_any _ (some ⟨w1.heap.size, 0, none⟩) 1 [fillS 0] HR.out (by simp))
  go_wp2_with fail
  refine HN.out.mono ?_
  rintro e w2 ⟨g, F, rfl, hP, hF, hb2⟩
  obtain ⟨k1, k2, k3, k4, k5, k6, k7, k8, k9, k10, k11, k12⟩ := known_past
  have hok0 : okP 10 ⟨[[fillS 0]], []⟩ := k1 ▸ okP.new (by simp) (by omega)
  have hok1 : okP 11 ⟨[[fillS 0, fillS 1]], []⟩ := k3 ▸ hok0.write (by omega) 0 (fillS 1)
  have hok2 : okP 11 ⟨[[fillS 1]], []⟩ := k6 ▸ hok1.flush
  have hok3 : okP 12 ⟨[[fillS 1]], [(3, [fillS 1])]⟩ := k8 ▸ hok2.seal (by omega) 3
  rw [k1] at hP
  have HP := Lib.hid hP
  have HF := Lib.hid (show ∀ i, F i → W.heap.size ≤ i from fun i hi => Nat.le_trans Hb1.out.size (hF i hi))
  have Hb2 := Lib.hid (Hb1.out.trans (hb2.mono Hb1.out.size))
  have H3 := Lib.hid (fill_any 1 w2)
  clear hP hF hb2 HN HR Hb1
  go_wp2_with fail
  refine H3.out.mono ?_
  rintro e w3 ⟨rfl, hb3⟩
  have Hb3 := Lib.hid (Hb2.out.trans (hb3.mono Hb2.out.size))
  have HW := Lib.hid (pWrite_any (HP.out.below hb3) hok0 0 (fillS 1))
  clear hb3 H3 HP Hb2
  go_wp2_with fail
  refine HW.out.mono ?_
  rintro e w4 ⟨rfl, h4⟩
  simp only [k2, k3] at h4 ⊢
  obtain ⟨F4, hP4, hF4, hb4⟩ := h4.fresh HF.out Hb3.out.size
  have HP := Lib.hid hP4
  have HF := Lib.hid hF4
  have Hb4 := Lib.hid (Hb3.out.trans hb4)
  have H5 := Lib.hid (zero_any w4)
  clear h4 hP4 hF4 hb4 HW Hb3
  rw [show ((0 : Nat) : Int) = 0 from rfl]
  go_wp2_with fail
  refine H5.out.mono ?_
  rintro e w5 ⟨rfl, hb5⟩
  have Hb5 := Lib.hid (Hb4.out.trans (hb5.mono Hb4.out.size))
  have HP5 := Lib.hid (HP.out.below hb5)
  have HM := Lib.hid (pMay_any HP5.out hok1 0 (fillS 0))
  rw [k4] at HM
  clear hb5 H5 HP Hb4
  go_wp2_with fail
  refine HM.out.mono ?_
  rintro e w6 ⟨rfl, hb6⟩
  have Hb6 := Lib.hid (Hb5.out.trans (hb6.mono Hb5.out.size))
  have HP6 := Lib.hid (HP5.out.below hb6)
  have H7 := Lib.hid (fill_any 1 w6)
  clear hb6 HM HP5 Hb5
  go_wp2_with fail
  refine H7.out.mono ?_
  rintro e w7 ⟨rfl, hb7⟩
  have Hb7 := Lib.hid (Hb6.out.trans (hb7.mono Hb6.out.size))
  have HP7 := Lib.hid (HP6.out.below hb7)
  have HM := Lib.hid (pMay_any HP7.out hok1 0 (fillS 1))
  rw [k5] at HM
  clear hb7 H7 HP6 Hb6
  go_wp2_with fail
  refine HM.out.mono ?_
  rintro e w8 ⟨rfl, hb8⟩
  have Hb8 := Lib.hid (Hb7.out.trans (hb8.mono Hb7.out.size))
  have HP8 := Lib.hid (HP7.out.below hb8)
  have HFl := Lib.hid (pFlush_any HP8.out hok1)
  clear hb8 HM HP7 Hb7
  go_wp2_with fail
  refine HFl.out.mono ?_
  rintro e w9 ⟨rfl, h9⟩
  simp only [k6] at h9
  obtain ⟨F9, hP9, hF9, hb9⟩ := h9.fresh HF.out Hb8.out.size
  have HP9 := Lib.hid hP9
  have HF9 := Lib.hid hF9
  have Hb9 := Lib.hid (Hb8.out.trans hb9)
  have HS := Lib.hid (pSeal_any HP9.out hok2 3)
  clear h9 hP9 hF9 hb9 HFl Hb8 HP8 HF
  go_wp2_with fail
  refine HS.out.mono ?_
  rintro e w10 ⟨rfl, h10⟩
  simp only [k7, k8] at h10 ⊢
  obtain ⟨F10, hP10, hF10, hb10⟩ := h10.fresh HF9.out Hb9.out.size
  have HP10 := Lib.hid hP10
  have HF10 := Lib.hid hF10
  have Hb10 := Lib.hid (Hb9.out.trans hb10)
  have HI := Lib.hid (pImage_any HP10.out hok3 3)
  rw [k9, k10] at HI
  clear h10 hP10 hF10 hb10 HS Hb9 HP9 HF9
  rw [show ((0 : Nat) : Int) = 0 from rfl]
  go_wp2_with fail
  refine HI.out.mono ?_
  rintro e w11 ⟨A1, c1, rfl, h11⟩
  have Hb11 := Lib.hid (Hb10.out.trans (h11.2.2.mono Hb10.out.size))
  have HP11 := Lib.hid (HP10.out.below h11.2.2)
  obtain ⟨ad, rfl, d0⟩ := str_cell (k := 0) h11.1.reads (by simp)
  have d0 : w11.cell? ad = some (.string (fillS 1)) := d0
  have HA := Lib.hid (h11.1.lt (k := ad.block) rfl)
  clear h11 HI Hb10 HP10
  rw [show ((0 : Nat) : Int) = 0 from rfl, show [fillS 1].length = 1 from rfl]
  go_wp2_with fail
  have HZ := Lib.hid (zero_any w11.drew)
  refine wp_region_mix3 (KeepsBut []) (KeepsBut.refl []) (KeepsBut.trans []) [33] [(0, 0), (0, 1), (0, 2), (0, 3), (0, 4), (0, 5), (0, 6), (2, 7), (2, 8), (0, 9), (0, 10), (0, 11), (0, 12), (0, 13), (0, 14), (0, 15), (0, 16), (0, 17), (0, 18), (0, 19), (0, 20), (0, 21), (0, 22), (1, 23), (2, 24), (0, 25), (0, 26), (0, 27), (0, 28), (0, 29), (0, 30), (0, 31), (0, 32), (2, 33), (0, 34), (0, 35), (0, 36)] (by kernel_rfl) (by kernel_rfl) (fun d _ _ _ _ h => by cases d <;> exact h) ?_
  repeat (first
    | (refine mix3_free (v := ?_) rfl rfl ?_ (mix3_norm (a' := ?_) ?_ ?_)
       rotate_left
       focus (intro w'; go_simp; first | done | (with_reducible rfl))
       rotate_left
       focus (simp only [Act.put, List.getElem_toArray, List.getElem_cons_zero, List.getElem_cons_succ, List.setIfInBounds_toArray, List.set_cons_zero, List.set_cons_succ]; rfl))
    | (refine mix3_pure (v := ?_) rfl rfl ?_ (mix3_norm (a' := ?_) ?_ ?_)
       rotate_left
       focus (intro w' hR; go_simp; first | done | (with_reducible rfl))
       rotate_left
       focus (simp only [Act.put, List.getElem_toArray, List.getElem_cons_zero, List.getElem_cons_succ, List.setIfInBounds_toArray, List.set_cons_zero, List.set_cons_succ]; rfl))
    | (refine mix3_freeOff rfl rfl (mix3_norm (a' := ?_) ?_ ?_)
       rotate_left
       focus (simp only [Act.put, List.getElem_toArray, List.getElem_cons_zero, List.getElem_cons_succ, List.setIfInBounds_toArray, List.set_cons_zero, List.set_cons_succ]; rfl))
    | (refine mix3_off rfl rfl (mix3_norm (a' := ?_) ?_ ?_)
       rotate_left
       focus (simp only [Act.put, List.getElem_toArray, List.getElem_cons_zero, List.getElem_cons_succ, List.setIfInBounds_toArray, List.set_cons_zero, List.set_cons_succ]; rfl)))
  refine mix3_eff rfl ?_
  simp only [List.getElem_toArray, List.getElem_cons_zero, List.getElem_cons_succ]
  go_wp2_with fail
  refine HZ.out.mono ?_
  rintro e w12 ⟨rfl, hb12⟩
  have hb12 : Below w11.heap.size w11 w12 := ((Below.refl w11.heap.size w11).drew).trans hb12
  have Hb12 := Lib.hid (Hb11.out.trans (hb12.mono Hb11.out.size))
  have HP12 := Lib.hid (HP11.out.below hb12)
  have HM := Lib.hid (pMay_any HP12.out hok3 0 (fillS 0))
  have d1 := (hb12.cell (p := ad) HA.out).trans d0
  rw [k11] at HM
  have HK := Lib.hid (KeepsBut.of_below (M := []) hb12)
  clear hb12 HZ HP11 Hb11 d0
  go_wp2_with fail
  refine mixQ3_normal HK.out rfl ?_
  refine mix3_eff rfl ?_
  simp only [List.getElem_toArray, List.getElem_cons_zero, List.getElem_cons_succ]
  go_wp2_with fail
  refine HM.out.mono ?_
  rintro e w13 ⟨rfl, hb13⟩
  have Hb13 := Lib.hid (Hb12.out.trans (hb13.mono Hb12.out.size))
  have HP13 := Lib.hid (HP12.out.below hb13)
  have d2 := (hb13.cell (p := ad) (Nat.lt_of_lt_of_le HA.out (by have := HK.out.1; exact this))).trans d1
  have HK13 := Lib.hid (KeepsBut.of_below (M := []) hb13)
  clear hb13 HM HP12 Hb12 d1 HK
  go_wp2_with fail
  refine mixQ3_normal HK13.out rfl ?_
  have q0 := fun w' (hk : KeepsBut [] w13 w') => hk.cell (p := ad) d2 (by simp)
  repeat (first
    | (refine mix3_free (v := ?_) rfl rfl ?_ (mix3_norm (a' := ?_) ?_ ?_)
       rotate_left
       focus (intro w'; go_simp; first | done | (with_reducible rfl))
       rotate_left
       focus (simp only [Act.put, List.getElem_toArray, List.getElem_cons_zero, List.getElem_cons_succ, List.setIfInBounds_toArray, List.set_cons_zero, List.set_cons_succ]; rfl))
    | (refine mix3_pure (v := ?_) rfl rfl ?_ (mix3_norm (a' := ?_) ?_ ?_)
       rotate_left
       focus (intro w' hR; go_simp; first | done | (with_reducible rfl))
       rotate_left
       focus (simp only [Act.put, List.getElem_toArray, List.getElem_cons_zero, List.getElem_cons_succ, List.setIfInBounds_toArray, List.set_cons_zero, List.set_cons_succ]; rfl))
    | (refine mix3_freeOff rfl rfl (mix3_norm (a' := ?_) ?_ ?_)
       rotate_left
       focus (simp only [Act.put, List.getElem_toArray, List.getElem_cons_zero, List.getElem_cons_succ, List.setIfInBounds_toArray, List.set_cons_zero, List.set_cons_succ]; rfl))
    | (refine mix3_off rfl rfl (mix3_norm (a' := ?_) ?_ ?_)
       rotate_left
       focus (simp only [Act.put, List.getElem_toArray, List.getElem_cons_zero, List.getElem_cons_succ, List.setIfInBounds_toArray, List.set_cons_zero, List.set_cons_succ]; rfl)))
  have HZ := Lib.hid (fill_any 1 w13)
  refine mix3_eff rfl ?_
  simp only [List.getElem_toArray, List.getElem_cons_zero, List.getElem_cons_succ]
  go_wp2_with fail
  refine HZ.out.mono ?_
  rintro e w14 ⟨rfl, hb14⟩
  have Hb14 := Lib.hid (Hb13.out.trans (hb14.mono Hb13.out.size))
  have HP14 := Lib.hid (HP13.out.below hb14)
  have HK14 := Lib.hid (KeepsBut.of_below (M := []) hb14)
  have HS := Lib.hid (pSeal_any HP14.out hok3 3)
  rw [k12] at HS
  clear hb14 HP13 Hb13 d2 HZ
  clear q0
  go_wp2_with fail
  refine mixQ3_normal HK14.out rfl ?_
  repeat (first
    | (refine mix3_free (v := ?_) rfl rfl ?_ (mix3_norm (a' := ?_) ?_ ?_)
       rotate_left
       focus (intro w'; go_simp; first | done | (with_reducible rfl))
       rotate_left
       focus (simp only [Act.put, List.getElem_toArray, List.getElem_cons_zero, List.getElem_cons_succ, List.setIfInBounds_toArray, List.set_cons_zero, List.set_cons_succ]; rfl))
    | (refine mix3_pure (v := ?_) rfl rfl ?_ (mix3_norm (a' := ?_) ?_ ?_)
       rotate_left
       focus (intro w' hR; go_simp; first | done | (with_reducible rfl))
       rotate_left
       focus (simp only [Act.put, List.getElem_toArray, List.getElem_cons_zero, List.getElem_cons_succ, List.setIfInBounds_toArray, List.set_cons_zero, List.set_cons_succ]; rfl))
    | (refine mix3_freeOff rfl rfl (mix3_norm (a' := ?_) ?_ ?_)
       rotate_left
       focus (simp only [Act.put, List.getElem_toArray, List.getElem_cons_zero, List.getElem_cons_succ, List.setIfInBounds_toArray, List.set_cons_zero, List.set_cons_succ]; rfl))
    | (refine mix3_off rfl rfl (mix3_norm (a' := ?_) ?_ ?_)
       rotate_left
       focus (simp only [Act.put, List.getElem_toArray, List.getElem_cons_zero, List.getElem_cons_succ, List.setIfInBounds_toArray, List.set_cons_zero, List.set_cons_succ]; rfl)))
  refine mix3_eff rfl ?_
  simp only [List.getElem_toArray, List.getElem_cons_zero, List.getElem_cons_succ]
  go_wp2_with fail
  refine HS.out.mono ?_
  rintro e w15 ⟨rfl, h15⟩
  obtain ⟨F15, hP15, hF15, hb15⟩ := h15.fresh HF10.out Hb14.out.size
  have Hb15 := Lib.hid (Hb14.out.trans hb15)
  clear h15 hP15 hF15 hb15 HS
  rw [show ((14 : Nat) : Int) = 14 from rfl]
  go_wp2_with fail
  refine mixQ3_last (by simp) rfl ?_
  repeat (first
    | (refine mix3_free (v := ?_) rfl rfl ?_ (mix3_norm (a' := ?_) ?_ ?_)
       rotate_left
       focus (intro w'; go_simp; first | done | (with_reducible rfl))
       rotate_left
       focus (simp only [Act.put, List.getElem_toArray, List.getElem_cons_zero, List.getElem_cons_succ, List.setIfInBounds_toArray, List.set_cons_zero, List.set_cons_succ]; rfl))
    | (refine mix3_pure (v := ?_) rfl rfl ?_ (mix3_norm (a' := ?_) ?_ ?_)
       rotate_left
       focus (intro w' hR; go_simp; first | done | (with_reducible rfl))
       rotate_left
       focus (simp only [Act.put, List.getElem_toArray, List.getElem_cons_zero, List.getElem_cons_succ, List.setIfInBounds_toArray, List.set_cons_zero, List.set_cons_succ]; rfl))
    | (refine mix3_freeOff rfl rfl (mix3_norm (a' := ?_) ?_ ?_)
       rotate_left
       focus (simp only [Act.put, List.getElem_toArray, List.getElem_cons_zero, List.getElem_cons_succ, List.setIfInBounds_toArray, List.set_cons_zero, List.set_cons_succ]; rfl))
    | (refine mix3_off rfl rfl (mix3_norm (a' := ?_) ?_ ?_)
       rotate_left
       focus (simp only [Act.put, List.getElem_toArray, List.getElem_cons_zero, List.getElem_cons_succ, List.setIfInBounds_toArray, List.set_cons_zero, List.set_cons_succ]; rfl)))
  refine mix3_done ?_
  go_wp2_with fail
  go_ret
  exact ⟨rfl, Hb15.out⟩
end Go.Proofs.Ytiolfnnkkflaiaa
