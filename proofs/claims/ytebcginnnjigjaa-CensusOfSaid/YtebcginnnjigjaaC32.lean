/- A net's packets, one by one: the iterator's contract. -/
import Derived.Test.YtebcginnnjigjaaC3
import Derived.Test.YtebcginnnjigjaaC9
import Derived.Test.YtebcginnnjigjaaC13
import Derived.Deep.DeepCutAuto
open Go.RowKit Go.Shelf
namespace Go.Proofs.Ytebcginnnjigjaa

theorem SameTo.below {w W : World} (h : Below w.heap.size w W) : SameTo w.heap.size w W := fun k hk => h.block k hk
theorem SameTo.less {B B' : Nat} {w W : World} (h : SameTo B w W) (hB : B' ≤ B) : SameTo B' w W := fun k hk => h k (by omega)
theorem sameTo_putObj {B : Nat} (W : World) {l : Nat} (hl : B ≤ l) (o : Obj) : SameTo B W (W.putObj l o) := fun k hk => World.putObj_heap_other (by omega)
theorem reads_same {w W : World} {sz n : Nat} {A : Option Addr} {xs : List Value} (h : Reads w sz A n xs) (hs : SameTo w.heap.size w W) : Reads W sz A n xs :=
  h.keep fun p u hp => by
    rw [← hp]
    unfold World.cell?
    rw [hs _ (World.block_lt_of_cell? _ _ hp)]
theorem PRow.same {w W : World} {A : Option Addr} {c : Nat} {ps : List (Int × ByteArray)} (h : PRow w A c ps) {B : Nat} (hs : SameTo B w W) (hB : ∀ k, blk A = some k → k < B) : PRow W A c ps := by
  refine ⟨h.1, ?_⟩
  rcases h.2 with h2 | ⟨g, cap, cur, hv, h1, h2, h3⟩
  · exact .inl h2
  · refine .inr ⟨g, cap, cur, hv, h1, (hs g (hB g ?_)).trans h2, h3⟩
    injection hv with hv
    rw [hv]; rfl
theorem NetP.same2 {w W : World} {g : Nat} {A : Option Addr} {c : Nat} {σ : Nt} (h : NetP w g A c σ) {B : Nat} (hs : SameTo B w W) (hB : ∀ i, Foot g A i → i < B) : NetP W g A c σ :=
  ⟨(hs g (hB g (.inl rfl))).trans h.1, h.2.1.same hs (fun k hk => hB k (.inr hk)), h.2.2⟩
/-- What a round keeps: what lay below n0, and the iterator's own block. -/
def KpC (n0 bi : Nat) (W W' : World) : Prop := SameTo n0 W W' ∧ W'.heap[bi]? = W.heap[bi]?
theorem KpC.trans {n0 bi : Nat} (A B C : World) (h : KpC n0 bi A B) (k : KpC n0 bi B C) : KpC n0 bi A C := ⟨h.1.trans k.1, k.2.trans h.2⟩
theorem KpC.putObj {n0 bi : Nat} (W : World) {l : Nat} (hl : n0 ≤ l) (hb : bi < l) (o : Obj) : KpC n0 bi W (W.putObj l o) := ⟨sameTo_putObj W hl o, World.putObj_heap_other (by omega)⟩
/-- What the iterator does between two rounds: it lays blocks. -/
def AbC (A B : World) : Prop := Below A.heap.size A B
theorem AbC.others {A B : World} (h : AbC A B) (k : Nat) (o : Obj) (hk : A.heap[k]? = some o) (_ : o.isCells = false) : B.heap[k]? = some o := (h.block k (Array.getElem?_eq_some_iff.1 hk).1).trans hk
def pv (p : Int × ByteArray) : Value := .agg #[.int .i64 p.1, .string p.2]

set_option maxHeartbeats 4000000 in
set_option maxRecDepth 100000 in
theorem packets1_any (n0 bi g : Nat) (hn0 : n0 ≤ bi) (σ : Nt) (A : Option Addr) (c : Nat) (w : World) (hbi : w.heap[bi]? = some (.cells #[.pointer (some ⟨g, 0, none⟩)] 25 (0, 0))) (hN : ∀ W, SameTo n0 w W → NetP W g A c σ) (hl : σ.ps.length ≤ 1000) :
    SeqR Try.prog 41 #[.pointer (some ⟨bi, 0, none⟩)] (fun p : Int × ByteArray => #[pv p]) (KpC n0 bi) AbC σ.ps w := by
  intro l J W hW hAb hY h0
  have hlt : bi < w.heap.size := (Array.getElem?_eq_some_iff.1 hbi).1
  have HJ := Lib.hid h0
  have HAb := Lib.hid hAb
  have HY := Lib.hid hY
  have HB := Lib.hid ((hW.block bi hlt).trans hbi)
  have HN := Lib.hid (show ∀ w', SameTo n0 W w' → NetP w' g A c σ from fun w' h' => hN w' (fun k hk => (h' k hk).trans (hW.block k (by omega))))
  clear hbi hN hW h0 hAb hY hlt
  have hcell := (cells1 HB.out).1
  have HL := Lib.hid (netLen_any W g A c σ (HN.out W (SameTo.refl _ _)))
  refine calls_of_wp Try.func41 rfl ?_
  simp only [Try.ntmps41, List.size_toArray, List.length_cons, List.length_nil, Nat.reduceAdd, Nat.reduceSub, Array.replicate_succ, Array.replicate_zero, List.push_toArray, List.append_toArray, List.nil_append, List.cons_append]
  go_wp2_with fail
  refine HL.out.mono ?_
  rintro e w1 ⟨rfl, rfl⟩
  clear HL
  go_wp2_with fail
  clear hcell
  go_loopw [8] (fun i wr => ∃ k : Nat, k ≤ σ.ps.length ∧ i = .int .i64 k ∧ Hid (J (σ.ps.take k) wr) ∧ Hid (wr.heap[bi]? = some (.cells #[.pointer (some ⟨g, 0, none⟩)] 25 (0, 0))) ∧ Hid (SameTo n0 W wr)) (fun i _ => σ.ps.length - (intOf i).toNat)
  case atStart => exact ⟨0, Nat.zero_le _, rfl, HJ, HB, Lib.hid (SameTo.refl _ _)⟩
  case round =>
    clear HJ HB
    obtain ⟨k, hk, rfl, HJ, HB, HS⟩ := hrel
    obtain ⟨wo, rfl⟩ : ∃ wo : World, wo = wr := ⟨_, rfl⟩
    by_cases hlt : k < σ.ps.length
    · have hcell := (cells1 HB.out).1
      have HA := Lib.hid (netAt_any wo g A c σ (HN.out wo HS.out) (k : Int))
      rw [pAt_in hlt, hasE_in (show inN σ (k : Int) by unfold inN; omega)] at HA
      have HT := Lib.hid (show σ.ps.take (k + 1) = σ.ps.take k ++ [σ.ps[k]] from by rw [List.take_add_one, List.getElem?_eq_getElem hlt]; rfl)
      have HP := Lib.hid (show σ.ps.take k ++ [σ.ps[k]] <+: σ.ps from by rw [← HT.out]; exact List.take_prefix _ _)
      generalize σ.ps[k] = p at HA HT HP
      obtain ⟨x, s⟩ := p
      go_wp2_with fail
      refine HA.out.mono ?_
      rintro e w1 ⟨rfl, hb1⟩
      obtain ⟨hb2, hg2, hs2⟩ := alloc1 w1 #[.int .i64 x, .string s] 51
      have HB2 := Lib.hid (show Below wo.heap.size wo _ from hb1.trans (hb2.mono (B' := wo.heap.size) hb1.size))
      obtain ⟨b0, b1, _, _⟩ := cells2 hg2
      rw [show ((0 : Nat) : Int) = 0 from rfl]
      clear HA hb1 hb2 hg2 hs2 hcell
      go_upto_region 4 with fail
      have HY2 := Lib.hid (HY.out (σ.ps.take k) (x, s) _ (HAb.out _ _ _ HJ.out HB2.out) HP.out)
      obtain ⟨fn, tmps, assign, body, hy, hR⟩ := HY2.out
      dsimp only [pv] at hy hR
      have HRn := Lib.hid hR
      clear hR HY2
      refine (wpIn_wide (n := 0)).1 ?_
      gi_wp2
      refine ⟨rfl, ?_⟩
      refine HRn.out.mono ?_
      rintro e W3 ⟨rfl, hJ3, hk3⟩
      have hbl := (Array.getElem?_eq_some_iff.1 HB.out).1
      have HB3 := Lib.hid (hk3.2.trans ((HB2.out.block bi hbl).trans HB.out))
      have HS3 := Lib.hid (HS.out.trans (((SameTo.below HB2.out).less (by omega)).trans hk3.1))
      have HJ3 := Lib.hid (show J (σ.ps.take (k + 1)) W3 from by rw [HT.out]; exact hJ3)
      clear hJ3 hk3 hy HRn b0 b1 hbl
      gi_wp2
      go_wp2_with fail
      case roundEnd =>
        exact ⟨⟨k + 1, by omega, by push_cast; rfl, HJ3, HB3, HS3⟩, by simp only [intOf]; omega⟩
    · have hke : k = σ.ps.length := by omega
      subst hke
      have HF := Lib.hid (show J σ.ps wo by have := HJ.out; rwa [List.take_length] at this)
      go_wp2_with fail
      go_end0
      exact ⟨⟨_, rfl⟩, HF.out⟩
theorem packets1_nil (n0 bi : Nat) (w : World) (hbi : w.heap[bi]? = some (.cells #[.pointer none] 25 (0, 0))) :
    SeqR Try.prog 41 #[.pointer (some ⟨bi, 0, none⟩)] (fun p : Int × ByteArray => #[pv p]) (KpC n0 bi) AbC [] w := by
  intro l J W hW hAb hY h0
  have hlt : bi < w.heap.size := (Array.getElem?_eq_some_iff.1 hbi).1
  have HJ := Lib.hid h0
  have hcell := (cells1 ((hW.block bi hlt).trans hbi)).1
  clear hbi hW h0 hAb hY hlt
  have HL := Lib.hid (netLen_nil W)
  refine calls_of_wp Try.func41 rfl ?_
  simp only [Try.ntmps41, List.size_toArray, List.length_cons, List.length_nil, Nat.reduceAdd, Nat.reduceSub, Array.replicate_succ, Array.replicate_zero, List.push_toArray, List.append_toArray, List.nil_append, List.cons_append]
  go_wp2_with fail
  refine HL.out.mono ?_
  rintro e w1 ⟨rfl, rfl⟩
  clear HL hcell
  go_wp2_with fail
  refine wp_loop_rounds 1 ?_
  rw [rounds_succ]
  go_wp2_with fail
  go_end0
  exact ⟨⟨_, rfl⟩, HJ.out⟩
theorem packets_any (q : Option Addr) (w : World) :
    Calls Try.prog 26 #[.pointer q] w fun e w' => e = .returned (.func (.func 41) #[] #[.pointer (some ⟨w.heap.size, 0, none⟩)]) ∧ w.alloc (.cells #[.pointer q] 25) = w' := by
  go_enter Try.func26, Try.ntmps26
  go_wp2
  go_ret
  exact ⟨rfl, rfl⟩
end Go.Proofs.Ytebcginnnjigjaa
