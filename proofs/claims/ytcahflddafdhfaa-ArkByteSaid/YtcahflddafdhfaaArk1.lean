/- Arks: runs of like sectors; the iterator's contract. -/
import Derived.Test.YtcahflddafdhfaaRange
import Derived.Test.YtcahflddafdhfaaStr
import Derived.Test.YtcahflddafdhfaaReaderB
import Derived.Deep.DeepCutAuto
open Go.RowKit
namespace Go.Proofs.Ytcahflddafdhfaa

/-! ### runs -/
def lead (x : ByteArray) : List ByteArray → Nat
  | [] => 0
  | y :: l => if y = x then lead x l + 1 else 0
theorem lead_le (x : ByteArray) : ∀ l : List ByteArray, lead x l ≤ l.length
  | [] => Nat.le_refl _
  | y :: l => by
    unfold lead
    split
    · have := lead_le x l; rw [List.length_cons]; omega
    · exact Nat.zero_le _
theorem lead_get (x : ByteArray) : ∀ (l : List ByteArray) (k : Nat), k < lead x l → l[k]? = some x
  | [], k, h => by simp [lead] at h
  | y :: l, k, h => by
    unfold lead at h
    split at h
    · rename_i hy
      cases k with
      | zero => simp [hy]
      | succ k => simpa using lead_get x l k (by omega)
    · omega
theorem lead_stop (x : ByteArray) : ∀ l : List ByteArray, l[lead x l]? ≠ some x
  | [] => by simp
  | y :: l => by
    unfold lead
    split
    · simpa using lead_stop x l
    · rename_i hy; simpa using hy
def runsOf (l : List ByteArray) : List (ByteArray × Nat) :=
  match l with
  | [] => []
  | x :: l => (x, lead x l + 1) :: runsOf (l.drop (lead x l))
termination_by l.length
decreasing_by simp; omega
theorem runsOf_nil : runsOf [] = [] := by rw [runsOf]
theorem runsOf_cons (x : ByteArray) (l : List ByteArray) : runsOf (x :: l) = (x, lead x l + 1) :: runsOf (l.drop (lead x l)) := by rw [runsOf]
attribute [irreducible] lead
/-- One step: the first run of what is left. -/
theorem runsOf_step {l : List ByteArray} {n : Nat} (h0 : 0 < l.length) (h1 : 1 ≤ n) (hn : n ≤ l.length) (hall : ∀ j, j < n → l[j]? = some l[0]) (hstop : l[n]? ≠ some l[0]) : runsOf l = (l[0], n) :: runsOf (l.drop n) := by
  cases l with
  | nil => simp at h0
  | cons x l =>
    have hx : (x :: l)[0] = x := rfl
    rw [hx] at hall hstop
    have e : lead x l = n - 1 := by
      rcases Nat.lt_trichotomy (lead x l) (n - 1) with h | h | h
      · have h2 := hall (lead x l + 1) (by omega)
        rw [List.getElem?_cons_succ] at h2
        exact absurd h2 (lead_stop x l)
      · exact h
      · have h2 := lead_get x l (n - 1) h
        obtain ⟨m, rfl⟩ : ∃ m, n = m + 1 := ⟨n - 1, by omega⟩
        rw [List.getElem?_cons_succ] at hstop
        exact absurd h2 hstop
    rw [runsOf_cons, e, hx]
    obtain ⟨m, rfl⟩ : ∃ m, n = m + 1 := ⟨n - 1, by omega⟩
    rfl

/-! ### the iterator -/
/-- What it does between two rounds: its own block alone. -/
def AbR (bi : Nat) (A B : World) : Prop := Chg (fun i => i = bi) A B ∧ KeepsOthers A B
theorem AbR.drew (bi : Nat) (A : World) : AbR bi A A.drew := ⟨(Chg.refl _ A).drew, KeepsOthers.drew A⟩
theorem AbR.set (bi : Nat) (A : World) (v : Value) : AbR bi A (A.setCell ⟨bi, 0, none⟩ v) := ⟨(Chg.refl _ A).set bi 0 v (fun _ => rfl), KeepsOthers.setCell _ _ _⟩
/-- What a round keeps: what lay below n0, and the iterator's own block. -/
def KpR (n0 bi : Nat) (W W' : World) : Prop := SameTo n0 W W' ∧ W'.heap[bi]? = W.heap[bi]?
theorem KpR.trans {n0 bi : Nat} (A B C : World) (h : KpR n0 bi A B) (k : KpR n0 bi B C) : KpR n0 bi A C := ⟨h.1.trans k.1, k.2.trans h.2⟩
def leftOf (bi : Nat) (w : World) : Nat := match w.cell? ⟨bi, 0, none⟩ with | some (.slice _ n _) => n | _ => 0
theorem cutSt_from (A : Option Addr) (c : Nat) (l : List ByteArray) (lo : Nat) (h1 : lo ≤ l.length) (hc : l.length ≤ c) : ∃ A' : Option Addr,
    (∀ W : World, (Instr.slice 22 (.slice A l.length c) (some (.int .i64 (lo : Int))) none none).run Try.prog W = .ok (.slice A' (l.length - lo) (c - lo)) W) ∧
    (∀ w, Reads w 1 A l.length (sts l) → Reads w 1 A' (l.drop lo).length (sts (l.drop lo))) := by
  obtain ⟨i0, hi0, _, hz1, _⟩ := info_parts (show (Try.prog.info? 9).map (fun i => (i.zero, i.size, i.bytes)) = some (some (.string ByteArray.empty), 1, 16) by kernel_rfl)
  obtain ⟨A', h3, h4⟩ := cut_from (P := Try.prog) 22 9 Try.underlying22 hi0 1 A l.length c hz1 lo h1 hc
  refine ⟨A', h3, fun w h => ?_⟩
  have := h4 w _ h
  rw [List.length_drop]
  simpa [sts, List.map_drop] using this
theorem str_inj {a b : ByteArray} (e : a.toList = b.toList) : a = b := by
  rw [ByteArray.toList_eq, ByteArray.toList_eq] at e
  obtain ⟨⟨x⟩⟩ := a
  obtain ⟨⟨y⟩⟩ := b
  simp only at e
  rw [e]
theorem cell_heap {w w' : World} (h : w'.heap = w.heap) (p : Addr) : w'.cell? p = w.cell? p := by unfold World.cell?; rw [h]
theorem Chg.drewN {F : Nat → Prop} {w w1 : World} (h : Chg F w w1) (n : Nat) : Chg F w (w1.drewN n) := ⟨h.os, h.tape, h.output, h.size, h.block⟩
set_option maxHeartbeats 4000000 in
set_option maxRecDepth 100000 in
theorem runs1_any (n0 bi : Nat) (hn0 : n0 ≤ bi) (ls : List ByteArray) (A : Option Addr) (c : Nat) (w : World) (hbi : w.heap[bi]? = some (.cells #[.slice A ls.length c] 22 (0, 0))) (hr : ∀ W, SameTo n0 w W → Reads W 1 A ls.length (sts ls)) (hc : ls.length ≤ c) (hl : ls.length ≤ 1000000) :
    SeqR Try.prog 53 #[.pointer (some ⟨bi, 0, none⟩)] (fun x : ByteArray × Nat => #[.string x.1, .int .i64 (x.2 : Nat)]) (KpR n0 bi) (AbR bi) (runsOf ls) w := by
  intro l J W hW hAb hY h0
  have hlt : bi < w.heap.size := (Array.getElem?_eq_some_iff.1 hbi).1
  have HJ := Lib.hid h0
  have HAb := Lib.hid hAb
  have HY := Lib.hid hY
  have HC := Lib.hid (show ∃ A' c' rest, W.heap[bi]? = some (.cells #[.slice A' rest.length c'] 22 (0, 0)) ∧ (∀ w', SameTo n0 W w' → Reads w' 1 A' rest.length (sts rest)) ∧ rest.length ≤ c' ∧ rest.length ≤ 1000000 ∧ [] ++ runsOf rest = runsOf ls from
    ⟨A, c, ls, (hW.block bi hlt).trans hbi, fun w' h => hr w' (fun k hk => (h k hk).trans (hW.block k (by omega))), hc, hl, rfl⟩)
  clear hbi hr hc hl hW h0 hAb hY hlt
  refine calls_of_wp Try.func53 rfl ?_
  simp only [Try.ntmps53, List.size_toArray, List.length_cons, List.length_nil, Nat.reduceAdd, Nat.reduceSub, Array.replicate_succ, Array.replicate_zero, List.push_toArray, List.append_toArray, List.nil_append, List.cons_append]
  go_wp2_with fail
  go_loopw [3] (fun _ wr => Hid (∃ pre, J pre wr ∧ ∃ A' c' rest, wr.heap[bi]? = some (.cells #[.slice A' rest.length c'] 22 (0, 0)) ∧ (∀ w', SameTo n0 wr w' → Reads w' 1 A' rest.length (sts rest)) ∧ rest.length ≤ c' ∧ rest.length ≤ 1000000 ∧ pre ++ runsOf rest = runsOf ls)) (fun _ wr => leftOf bi wr)
  case atStart => exact Lib.hid ⟨[], HJ.out, HC.out⟩
  case round =>
    obtain ⟨wo, rfl⟩ : ∃ wo : World, wo = wr := ⟨_, rfl⟩
    obtain ⟨pre, hj, A1, c1, rest, hb1, hr1, hc1, hl1, hp1⟩ := hrel.out
    have HJ := Lib.hid hj
    have HR := Lib.hid hr1
    have HP := Lib.hid hp1
    have HB := Lib.hid hb1
    have HC1 := Lib.hid hc1
    have hcell := (cells1 hb1).1
    clear hj hr1 hp1 hb1 hrel HC hc1
    by_cases h0 : 0 < rest.length
    · obtain ⟨ad, rfl, hc0⟩ := str_cell (HR.out wo (SameTo.refl _ _)) h0
      have e0 : ad.add 0 = ad := by unfold Addr.add; rw [if_pos rfl]
      rw [e0] at hc0
      go_wp2_with fail
      obtain ⟨x, hx⟩ : ∃ x, rest[0] = x := ⟨_, rfl⟩
      rw [hx] at hc0
      have HX := Lib.hid hx
      clear hx
      have HS0 := Lib.hid (show ∀ j, j < 1 → rest[j]? = some x from fun j hj => by
        obtain rfl : j = 0 := by omega
        rw [List.getElem?_eq_getElem h0, HX.out])
      go_loopw [3] (fun n wi => ∃ k : Nat, 1 ≤ k ∧ k ≤ rest.length ∧ n = .int .i64 k ∧ Hid (∀ j, j < k → rest[j]? = some x) ∧ Hid (wi.heap = wo.heap ∧ AbR bi wo wi)) (fun n _ => rest.length - (intOf n).toNat)
      case atStart => exact ⟨1, Nat.le_refl _, h0, rfl, HS0, Lib.hid ⟨rfl, Chg.refl _ _, KeepsOthers.refl _⟩⟩
      case round =>
        obtain ⟨k, hk1, hk, rfl, HA, HW⟩ := hrel
        have hcw : wr.cell? ⟨bi, 0, none⟩ = some (.slice (some ad) rest.length c1) := by rw [cell_heap HW.out.1]; exact hcell
        have hcx : wr.cell? ad = some (.string x) := by rw [cell_heap HW.out.1]; exact hc0
        by_cases hlt : k < rest.length
        · obtain ⟨ad2, h2, hck⟩ := str_cell (HR.out wr (fun i _ => by rw [HW.out.1])) hlt
          injection h2 with h2
          subst h2
          have e2 : rest[k]? = some rest[k] := List.getElem?_eq_getElem hlt
          generalize rest[k] = y at hck e2
          have E2 := Lib.hid e2
          clear e2
          by_cases hyx : y = x
          · subst hyx
            have HA1 := Lib.hid (show ∀ j, j < k + 1 → rest[j]? = some y from fun j hj => by
              by_cases e : j = k
              · rw [e, E2.out]
              · exact HA.out j (by omega))
            have hxx : (y.toList == y.toList) = true := beq_self_eq_true _
            go_wp2_with fail
            go_quiet (fail)
            clear hcw hcx hck hxx
            go_wp2_with fail
            case roundEnd => exact ⟨⟨k + 1, by omega, by omega, by push_cast; rfl, HA1, Lib.hid ⟨HW.out.1, HW.out.2.1.drewN _, HW.out.2.2.trans ⟨Nat.le_refl _, fun _ _ h _ => h⟩⟩⟩, by simp only [intOf]; omega⟩
          · have HST := Lib.hid (show rest[k]? ≠ some x from fun h => by rw [E2.out] at h; exact hyx (Option.some.inj h))
            have hne : (y.toList == x.toList) = false := by rw [beq_eq_false_iff_ne]; exact fun e => hyx (str_inj e)
            clear hyx
            go_wp2_with fail
            go_quiet (fail)
            clear hck hne
            have HW := Lib.hid (show (wr.drewN nq).heap = wo.heap ∧ AbR bi wo (wr.drewN nq) from ⟨HW.out.1, HW.out.2.1.drewN _, HW.out.2.2.trans ⟨Nat.le_refl _, fun _ _ h _ => h⟩⟩)
            generalize wr.drewN nq = w2 at HW ⊢
            have hcw : w2.cell? ⟨bi, 0, none⟩ = some (.slice (some ad) rest.length c1) := by rw [cell_heap HW.out.1]; exact hcell
            have hcx : w2.cell? ad = some (.string x) := by rw [cell_heap HW.out.1]; exact hc0
            go_upto_region 4 with fail
            have HSt := Lib.hid (show runsOf rest = (x, k) :: runsOf (rest.drop k) from by
              have h := runsOf_step (l := rest) h0 hk1 hk (fun j hj => by rw [HX.out]; exact HA.out j hj) (by rw [HX.out]; exact HST.out)
              rw [h, HX.out])
            have hHe := HW.out.1
            have hJ2 := HAb.out pre wo _ HJ.out HW.out.2
            have HY2 := Lib.hid (HY.out pre (x, k) _ hJ2 (by rw [← HP.out, HSt.out]; exact ⟨runsOf (rest.drop k), by simp⟩))
            clear hJ2
            obtain ⟨A2, hcut, hcr⟩ := cutSt_from (some ad) c1 rest k hk HC1.out
            have HCr := Lib.hid hcr
            clear hcr
            obtain ⟨fn, tmps, assign, body, hy, hR⟩ := HY2.out
            dsimp only at hy hR
            have HRn := Lib.hid hR
            clear hR HY2
            refine (wpIn_wide (n := 0)).1 ?_
            gi_wp2
            refine ⟨rfl, ?_⟩
            refine HRn.out.mono ?_
            rintro e W3 ⟨rfl, hJ3, hk3⟩
            have hb3 : W3.heap[bi]? = some (.cells #[.slice (some ad) rest.length c1] 22 (0, 0)) := hk3.2.trans (by rw [HW.out.1]; exact HB.out)
            obtain ⟨hc3, hf3⟩ := cells1 hb3
            have HJ3 := Lib.hid hJ3
            have HK3 := Lib.hid hk3
            have HB3 := Lib.hid hb3
            clear hJ3 hk3 hb3 hy HRn hcw hcx
            gi_wp2
            go_wp2_with fail
            case roundEnd =>
              have hb4 := heap_setCell_same _ _ 0 _ _ (.slice A2 (rest.length - k) (c1 - k)) HB3.out
              have hk0 := hk
              have hl4 : (rest.drop k).length = rest.length - k := List.length_drop
              refine ⟨Lib.hid ⟨pre ++ [(x, k)], HAb.out _ _ _ HJ3.out (AbR.set bi W3 _), A2, c1 - k, rest.drop k, by rw [hl4]; exact hb4, fun w' h' => ?_, by rw [hl4]; have := HC1.out; omega, by rw [hl4]; omega, by rw [← HP.out, HSt.out]; simp⟩, ?_⟩
              · refine HCr.out w' (HR.out w' (fun i hi => ?_))
                rw [h' i hi, Below.heap_setCell W3 ⟨bi, 0, none⟩ _ i (fun e => by have : i = bi := e; omega), HK3.out.1 i hi, HW.out.1]
              · unfold leftOf
                rw [(cells1 hb4).1, hcell]
                show rest.length - k < rest.length
                omega
        · have HST := Lib.hid (show rest[k]? ≠ some x from by rw [List.getElem?_eq_none (by omega)]; intro h; cases h)
          go_wp2_with fail
          go_quiet (fail)
          have HW := Lib.hid (show (wr.drewN nq).heap = wo.heap ∧ AbR bi wo (wr.drewN nq) from ⟨HW.out.1, HW.out.2.1.drewN _, HW.out.2.2.trans ⟨Nat.le_refl _, fun _ _ h _ => h⟩⟩)
          generalize wr.drewN nq = w2 at HW ⊢
          have hcw : w2.cell? ⟨bi, 0, none⟩ = some (.slice (some ad) rest.length c1) := by rw [cell_heap HW.out.1]; exact hcell
          have hcx : w2.cell? ad = some (.string x) := by rw [cell_heap HW.out.1]; exact hc0
          go_upto_region 4 with fail
          have HSt := Lib.hid (show runsOf rest = (x, k) :: runsOf (rest.drop k) from by
            have h := runsOf_step (l := rest) h0 hk1 hk (fun j hj => by rw [HX.out]; exact HA.out j hj) (by rw [HX.out]; exact HST.out)
            rw [h, HX.out])
          have hHe := HW.out.1
          have hJ2 := HAb.out pre wo _ HJ.out HW.out.2
          have HY2 := Lib.hid (HY.out pre (x, k) _ hJ2 (by rw [← HP.out, HSt.out]; exact ⟨runsOf (rest.drop k), by simp⟩))
          clear hJ2
          obtain ⟨A2, hcut, hcr⟩ := cutSt_from (some ad) c1 rest k hk HC1.out
          have HCr := Lib.hid hcr
          clear hcr
          obtain ⟨fn, tmps, assign, body, hy, hR⟩ := HY2.out
          dsimp only at hy hR
          have HRn := Lib.hid hR
          clear hR HY2
          refine (wpIn_wide (n := 0)).1 ?_
          gi_wp2
          refine ⟨rfl, ?_⟩
          refine HRn.out.mono ?_
          rintro e W3 ⟨rfl, hJ3, hk3⟩
          have hb3 : W3.heap[bi]? = some (.cells #[.slice (some ad) rest.length c1] 22 (0, 0)) := hk3.2.trans (by rw [HW.out.1]; exact HB.out)
          obtain ⟨hc3, hf3⟩ := cells1 hb3
          have HJ3 := Lib.hid hJ3
          have HK3 := Lib.hid hk3
          have HB3 := Lib.hid hb3
          clear hJ3 hk3 hb3 hy HRn hcw hcx
          gi_wp2
          go_wp2_with fail
          case roundEnd =>
            have hb4 := heap_setCell_same _ _ 0 _ _ (.slice A2 (rest.length - k) (c1 - k)) HB3.out
            have hk0 := hk
            have hl4 : (rest.drop k).length = rest.length - k := List.length_drop
            refine ⟨Lib.hid ⟨pre ++ [(x, k)], HAb.out _ _ _ HJ3.out (AbR.set bi W3 _), A2, c1 - k, rest.drop k, by rw [hl4]; exact hb4, fun w' h' => ?_, by rw [hl4]; have := HC1.out; omega, by rw [hl4]; omega, by rw [← HP.out, HSt.out]; simp⟩, ?_⟩
            · refine HCr.out w' (HR.out w' (fun i hi => ?_))
              rw [h' i hi, Below.heap_setCell W3 ⟨bi, 0, none⟩ _ i (fun e => by have : i = bi := e; omega), HK3.out.1 i hi, HW.out.1]
            · unfold leftOf
              rw [(cells1 hb4).1, hcell]
              show rest.length - k < rest.length
              omega
    · have hr0 : rest = [] := List.eq_nil_of_length_eq_zero (by omega)
      subst hr0
      have HF := Lib.hid (show pre = runsOf ls by rw [← HP.out, runsOf_nil, List.append_nil])
      go_wp2_with fail
      go_end0
      exact ⟨⟨_, rfl⟩, by rw [← HF.out]; exact HJ.out⟩
end Go.Proofs.Ytcahflddafdhfaa
