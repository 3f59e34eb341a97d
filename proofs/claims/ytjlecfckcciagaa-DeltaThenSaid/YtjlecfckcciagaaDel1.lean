/- Lists of texts and of puts: few, light; alike or not. -/
import Derived.Test.YtjlecfckcciagaaStr
open Go.RowKit
namespace Go.Proofs.Ytjlecfckcciagaa

def fewB (l : List ByteArray) : Bool := decide (l.length ≤ 140) && l.all fun s => decide (s.size ≤ 200)
theorem fewB_long {l : List ByteArray} (h : 140 < l.length) : fewB l = false := by unfold fewB; rw [decide_eq_false (by omega)]; rfl
theorem fewB_bad {l : List ByteArray} {k : Nat} (hk : k < l.length) (h : 200 < l[k].size) : fewB l = false := by
  unfold fewB
  rw [Bool.and_eq_false_iff]; right
  rw [List.all_eq_false]
  exact ⟨l[k], List.getElem_mem _, by simp; omega⟩
theorem fewB_ok {l : List ByteArray} (h : l.length ≤ 140) (hk : ∀ k (hk : k < l.length), l[k].size ≤ 200) : fewB l = true := by
  unfold fewB
  rw [decide_eq_true h, Bool.true_and, List.all_eq_true]
  intro a ha
  obtain ⟨k, hk', rfl⟩ := List.mem_iff_getElem.1 ha
  exact decide_eq_true (hk k hk')
theorem fewB_len {l : List ByteArray} (h : fewB l = true) : l.length ≤ 140 := by
  unfold fewB at h
  rw [Bool.and_eq_true] at h
  exact of_decide_eq_true h.1
def lightB (l : List (Int × ByteArray)) : Bool := decide (l.length ≤ 140) && l.all fun s => decide (s.2.size ≤ 200)
theorem lightB_long {l : List (Int × ByteArray)} (h : 140 < l.length) : lightB l = false := by unfold lightB; rw [decide_eq_false (by omega)]; rfl
theorem lightB_bad {l : List (Int × ByteArray)} {k : Nat} (hk : k < l.length) (h : 200 < l[k].2.size) : lightB l = false := by
  unfold lightB
  rw [Bool.and_eq_false_iff]; right
  rw [List.all_eq_false]
  exact ⟨l[k], List.getElem_mem _, by simp; omega⟩
theorem lightB_ok {l : List (Int × ByteArray)} (h : l.length ≤ 140) (hk : ∀ k (hk : k < l.length), l[k].2.size ≤ 200) : lightB l = true := by
  unfold lightB
  rw [decide_eq_true h, Bool.true_and, List.all_eq_true]
  intro a ha
  obtain ⟨k, hk', rfl⟩ := List.mem_iff_getElem.1 ha
  exact decide_eq_true (hk k hk')
theorem lightB_len {l : List (Int × ByteArray)} (h : lightB l = true) : l.length ≤ 140 := by
  unfold lightB at h
  rw [Bool.and_eq_true] at h
  exact of_decide_eq_true h.1

set_option maxRecDepth 100000 in
theorem few42_any (w : World) (A : Option Addr) (l : List ByteArray) (c : Nat) (hr : Reads w 1 A l.length (sts l)) :
    Calls Try.prog 4 #[.slice A l.length c] w fun e w' => e = .returned (.bool (fewB l)) ∧ w = w' := by
  have Hr := Lib.hid hr
  clear hr
  by_cases hl : 140 < l.length
  · have H := Lib.hid (fewB_long hl)
    go_enter Try.func4, Try.ntmps4
    go_wp2_with fail
    go_ret
    exact ⟨by rw [H.out]; rfl, rfl⟩
  · go_enter Try.func4, Try.ntmps4
    go_wp2_with fail
    go_loopw [3] (fun i wr => ∃ k : Nat, k ≤ l.length ∧ i = .int .i64 k ∧ Hid (∀ j (hj : j < l.length), j < k → l[j].size ≤ 200) ∧ Hid (w = wr)) (fun i _ => l.length - (intOf i).toNat)
    case atStart => exact ⟨0, Nat.zero_le _, rfl, Lib.hid (fun j _ hj => by omega), Lib.hid rfl⟩
    case round =>
      obtain ⟨k, hk, rfl, Hp, Hw⟩ := hrel
      have hw := Hw.out
      subst hw
      by_cases hlt : k < l.length
      · obtain ⟨ad, rfl, hc⟩ := str_cell Hr.out hlt
        by_cases hb : 200 < l[k].size
        · have H := Lib.hid (fewB_bad hlt hb)
          generalize l[k] = b at hb hc
          go_wp2_with fail
          go_ret
          exact ⟨by rw [H.out]; rfl, rfl⟩
        · have H := Lib.hid (show ∀ j (hj : j < l.length), j < k + 1 → l[j].size ≤ 200 from fun j hj hjk => by
            by_cases h : j = k
            · subst h; omega
            · exact Hp.out j hj (by omega))
          generalize l[k] = b at hb hc
          go_wp2_with fail
          case roundEnd =>
            exact ⟨⟨k + 1, by omega, by push_cast; rfl, H, Lib.hid (by trivial)⟩, by simp only [intOf]; omega⟩
      · obtain rfl : k = l.length := by omega
        have H := Lib.hid (fewB_ok (by omega) (fun j hj => Hp.out j hj hj))
        go_wp2_with fail
        go_ret
        exact ⟨by rw [H.out]; rfl, rfl⟩

set_option maxRecDepth 100000 in
theorem light42_any (w : World) (A : Option Addr) (l : List (Int × ByteArray)) (c : Nat) (hr : Reads w 2 A l.length (pks l)) :
    Calls Try.prog 5 #[.slice A l.length c] w fun e w' => e = .returned (.bool (lightB l)) ∧ w = w' := by
  have Hr := Lib.hid hr
  clear hr
  by_cases hl : 140 < l.length
  · have H := Lib.hid (lightB_long hl)
    go_enter Try.func5, Try.ntmps5
    go_wp2_with fail
    go_ret
    exact ⟨by rw [H.out]; rfl, rfl⟩
  · go_enter Try.func5, Try.ntmps5
    go_wp2_with fail
    go_loopw [3] (fun i wr => ∃ k : Nat, k ≤ l.length ∧ i = .int .i64 k ∧ Hid (∀ j (hj : j < l.length), j < k → l[j].2.size ≤ 200) ∧ Hid (w = wr)) (fun i _ => l.length - (intOf i).toNat)
    case atStart => exact ⟨0, Nat.zero_le _, rfl, Lib.hid (fun j _ hj => by omega), Lib.hid rfl⟩
    case round =>
      obtain ⟨k, hk, rfl, Hp, Hw⟩ := hrel
      have hw := Hw.out
      subst hw
      by_cases hlt : k < l.length
      · obtain ⟨ad, rfl, _, hc⟩ := put_cells Hr.out hlt
        by_cases hb : 200 < l[k].2.size
        · have H := Lib.hid (lightB_bad hlt hb)
          generalize l[k].2 = b at hb hc
          go_wp2_with fail
          go_ret
          exact ⟨by rw [H.out]; rfl, rfl⟩
        · have H := Lib.hid (show ∀ j (hj : j < l.length), j < k + 1 → l[j].2.size ≤ 200 from fun j hj hjk => by
            by_cases h : j = k
            · subst h; omega
            · exact Hp.out j hj (by omega))
          generalize l[k].2 = b at hb hc
          go_wp2_with fail
          case roundEnd =>
            exact ⟨⟨k + 1, by omega, by push_cast; rfl, H, Lib.hid (by trivial)⟩, by simp only [intOf]; omega⟩
      · obtain rfl : k = l.length := by omega
        have H := Lib.hid (lightB_ok (by omega) (fun j hj => Hp.out j hj hj))
        go_wp2_with fail
        go_ret
        exact ⟨by rw [H.out]; rfl, rfl⟩

/-! ### alike -/
theorem str_ne {a b : ByteArray} (h : a ≠ b) : ¬ a.toList = b.toList := fun e => h (by
  rw [ByteArray.toList_eq, ByteArray.toList_eq] at e
  obtain ⟨⟨x⟩⟩ := a
  obtain ⟨⟨y⟩⟩ := b
  simp only at e
  rw [e])
set_option maxRecDepth 100000 in
theorem texts_any (A B : Option Addr) (l m : List ByteArray) (c d : Nat) (w : World) (hr : Reads w 1 A l.length (sts l)) (hs : Reads w 1 B m.length (sts m)) (hl : l.length ≤ 100000) :
    Calls Try.prog 11 #[.slice A l.length c, .slice B m.length d] w fun e w' => e = .returned (.bool (decide (l = m))) ∧ Below w.heap.size w w' := by
  have Hr := Lib.hid hr
  have Hs := Lib.hid hs
  clear hr hs
  by_cases hlm : l.length = m.length
  · have Hlm := Lib.hid hlm
    have hb : ((l.length : Int) != (m.length : Int)) = false := by simp [hlm]
    generalize hn : m.length = n at *
    have Hn := Lib.hid hn
    subst hlm
    clear hn
    go_enter Try.func11, Try.ntmps11
    go_wp2_with fail
    clear hb
    go_loopw [5] (fun i wr => ∃ k : Nat, k ≤ l.length ∧ i = .int .i64 k ∧ Hid (∀ j, j < k → l[j]? = m[j]?) ∧ Hid (Below w.heap.size w wr)) (fun i _ => l.length - (intOf i).toNat)
    case atStart => exact ⟨0, by omega, rfl, (fun j hj => by omega), Below.refl _ _⟩
    case round =>
      obtain ⟨k, hk, rfl, Hp, Hb⟩ := hrel
      by_cases hlt : k < l.length
      · have hlm : k < m.length := by rw [Hn.out]; exact hlt
        obtain ⟨ad, rfl, hc⟩ := str_cell (Hr.out.below Hb.out) hlt
        have Hs2 := Lib.hid (show Reads wr 1 B m.length (sts m) from (Hn.out ▸ Hs.out).below Hb.out)
        obtain ⟨bd, rfl, hd⟩ := str_cell Hs2.out hlm
        have e1 : l[k]? = some l[k] := List.getElem?_eq_getElem hlt
        have e2 : m[k]? = some m[k] := List.getElem?_eq_getElem hlm
        generalize l[k] = x at hc e1
        generalize m[k] = y at hd e2
        have E1 := Lib.hid e1
        have E2 := Lib.hid e2
        clear e1 e2 hlm
        by_cases hxy : x = y
        · subst hxy
          go_wp2_with fail
          go_quiet (fail)
          clear hc hd
          go_wp2_with fail
          case roundEnd =>
            refine ⟨⟨k + 1, by omega, by push_cast; rfl, Lib.hid fun j hj => ?_, Lib.hid (Hb.out.trans ⟨rfl, rfl, rfl, Nat.le_refl _, fun _ _ => rfl⟩)⟩, by simp only [intOf]; omega⟩
            by_cases h : j = k
            · subst h; rw [E1.out, E2.out]
            · exact Hp.out j (by omega)
        · have hne : (x.toList == y.toList) = false := by rw [beq_eq_false_iff_ne]; exact str_ne hxy
          have Hd : Hid (decide (l = m) = false) := Lib.hid (decide_eq_false fun h => hxy (by have h1 := E1.out; rw [h, E2.out] at h1; exact (Option.some.inj h1).symm))
          clear hxy
          go_wp2_with fail
          go_quiet (fail)
          clear hc hd
          go_wp2_with fail
          go_ret
          exact ⟨by rw [Hd.out]; rfl, Hb.out.trans ⟨rfl, rfl, rfl, Nat.le_refl _, fun _ _ => rfl⟩⟩
      · obtain rfl : k = l.length := by omega
        have Hd : Hid (decide (l = m) = true) := Lib.hid (decide_eq_true (List.ext_getElem? fun j => by
          by_cases h : j < l.length
          · exact Hp.out j h
          · rw [List.getElem?_eq_none (by omega), List.getElem?_eq_none (by rw [Hn.out]; omega)]))
        go_wp2_with fail
        go_ret
        exact ⟨by rw [Hd.out]; rfl, Hb.out⟩
  · have hb : ((l.length : Int) != (m.length : Int)) = true := by rw [bne_iff_ne]; omega
    have Hd : Hid (decide (l = m) = false) := Lib.hid (decide_eq_false fun h => hlm (by rw [h]))
    clear hlm
    go_enter Try.func11, Try.ntmps11
    go_wp2_with fail
    go_ret
    exact ⟨by rw [Hd.out]; rfl, Below.refl _ _⟩
set_option maxRecDepth 100000 in
theorem puts_any (A B : Option Addr) (l m : List (Int × ByteArray)) (c d : Nat) (w : World) (hr : Reads w 2 A l.length (pks l)) (hs : Reads w 2 B m.length (pks m)) (hl : l.length ≤ 100000) :
    Calls Try.prog 8 #[.slice A l.length c, .slice B m.length d] w fun e w' => e = .returned (.bool (decide (l = m))) ∧ Below w.heap.size w w' := by
  have Hr := Lib.hid hr
  have Hs := Lib.hid hs
  clear hr hs
  by_cases hlm : l.length = m.length
  · have Hlm := Lib.hid hlm
    have hb : ((l.length : Int) != (m.length : Int)) = false := by simp [hlm]
    generalize hn : m.length = n at *
    have Hn := Lib.hid hn
    subst hlm
    clear hn
    go_enter Try.func8, Try.ntmps8
    go_wp2_with fail
    clear hb
    go_loopw [5] (fun i wr => ∃ k : Nat, k ≤ l.length ∧ i = .int .i64 k ∧ Hid (∀ j, j < k → l[j]? = m[j]?) ∧ Hid (Below w.heap.size w wr)) (fun i _ => l.length - (intOf i).toNat)
    case atStart => exact ⟨0, by omega, rfl, (fun j hj => by omega), Below.refl _ _⟩
    case round =>
      obtain ⟨k, hk, rfl, Hp, Hb⟩ := hrel
      by_cases hlt : k < l.length
      · have hlm : k < m.length := by rw [Hn.out]; exact hlt
        obtain ⟨ad, rfl, hc, hc2⟩ := put_cells (Hr.out.below Hb.out) hlt
        have Hs2 := Lib.hid (show Reads wr 2 B m.length (pks m) from (Hn.out ▸ Hs.out).below Hb.out)
        obtain ⟨bd, rfl, hd, hd2⟩ := put_cells Hs2.out hlm
        have e1 : l[k]? = some l[k] := List.getElem?_eq_getElem hlt
        have e2 : m[k]? = some m[k] := List.getElem?_eq_getElem hlm
        generalize l[k] = x at hc hc2 e1
        generalize m[k] = y at hd hd2 e2
        obtain ⟨x1, x2⟩ := x
        obtain ⟨y1, y2⟩ := y
        simp only at hc hc2 hd hd2
        have E1 := Lib.hid e1
        have E2 := Lib.hid e2
        clear e1 e2 hlm
        by_cases hxy : x1 = y1 ∧ x2 = y2
        · obtain ⟨rfl, rfl⟩ := hxy
          go_wp2_with fail
          go_quiet (fail)
          clear hc hd hc2 hd2
          go_wp2_with fail
          case roundEnd =>
            refine ⟨⟨k + 1, by omega, by push_cast; rfl, Lib.hid fun j hj => ?_, Lib.hid (Hb.out.trans ⟨rfl, rfl, rfl, Nat.le_refl _, fun _ _ => rfl⟩)⟩, by simp only [intOf]; omega⟩
            by_cases h : j = k
            · subst h; rw [E1.out, E2.out]
            · exact Hp.out j (by omega)
        · have Hd : Hid (decide (l = m) = false) := Lib.hid (decide_eq_false fun h => hxy (by have h1 := E1.out; rw [h, E2.out] at h1; have h2 := Option.some.inj h1; injection h2 with h3 h4; exact ⟨h3.symm, h4.symm⟩))
          by_cases h1 : x1 = y1
          · have hne := str_ne (fun h => hxy ⟨h1, h⟩)
            clear hxy
            subst h1
            go_wp2_with fail
            go_quiet (fail)
            clear hc hd hc2 hd2
            go_wp2_with fail
            go_ret
            exact ⟨by rw [Hd.out]; rfl, Hb.out.trans ⟨rfl, rfl, rfl, Nat.le_refl _, fun _ _ => rfl⟩⟩
          · have hb : (x1 == y1) = false := by rw [beq_eq_false_iff_ne]; exact h1
            clear hxy h1
            go_wp2_with fail
            go_quiet (fail)
            clear hc hd hc2 hd2
            go_wp2_with fail
            go_ret
            exact ⟨by rw [Hd.out]; rfl, Hb.out.trans ⟨rfl, rfl, rfl, Nat.le_refl _, fun _ _ => rfl⟩⟩
      · obtain rfl : k = l.length := by omega
        have Hd : Hid (decide (l = m) = true) := Lib.hid (decide_eq_true (List.ext_getElem? fun j => by
          by_cases h : j < l.length
          · exact Hp.out j h
          · rw [List.getElem?_eq_none (by omega), List.getElem?_eq_none (by rw [Hn.out]; omega)]))
        go_wp2_with fail
        go_ret
        exact ⟨by rw [Hd.out]; rfl, Hb.out⟩
  · have hb : ((l.length : Int) != (m.length : Int)) = true := by rw [bne_iff_ne]; omega
    have Hd : Hid (decide (l = m) = false) := Lib.hid (decide_eq_false fun h => hlm (by rw [h]))
    clear hlm
    go_enter Try.func8, Try.ntmps8
    go_wp2_with fail
    go_ret
    exact ⟨by rw [Hd.out]; rfl, Below.refl _ _⟩
end Go.Proofs.Ytjlecfckcciagaa
