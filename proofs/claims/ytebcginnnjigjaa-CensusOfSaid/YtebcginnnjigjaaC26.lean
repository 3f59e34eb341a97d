/- The keys of a set of numbers: the iterator's contract. -/
import Derived.Test.YtebcginnnjigjaaC3
import Derived.Test.YtebcginnnjigjaaC7
import Derived.Deep.DeepCutAuto
import Derived.Maps.StringElems
import Derived.Maps.OwnOps
open Go.RowKit Go.Shelf Go.Maps
namespace Go.Proofs.Ytebcginnnjigjaa

theorem law64 : Keyed Try.prog 44 := int_keyed Try.underlying44
/-- A set of numbers: just those of a list. -/
def SetU (D : DataW Unit) (l : List Int) : Prop := ∀ x : Int, Maps.has D (.int .u64 x) = decide (x ∈ l)
def MapU (w : World) (B : Nat) (l : List Int) : Prop := ∃ D : DataW Unit, w.ownsMap Try.prog 44 (plainElem Try.prog 4) B l.length D ∧ SetU D l
section
variable {w w1 : World} {B : Nat} {l : List Int}
theorem MapU.made (w : World) : MapU (w.alloc (.map #[] 0)) w.heap.size [] := ⟨.map [], World.ownsMap_made _ _ _ _, fun x => by rfl⟩
theorem MapU.alloc (h : MapU w B l) (o : Obj) : MapU (w.alloc o) B l := by obtain ⟨D, h1, h2⟩ := h; exact ⟨D, h1.alloc o, h2⟩
theorem MapU.below (h : MapU w B l) (hb : Below w.heap.size w w1) : MapU w1 B l := by
  obtain ⟨D, h1, h2⟩ := h
  exact ⟨D, h1.kept ⟨hb.os, hb.tape, hb.output, hb.size, fun i hi _ => hb.block i hi⟩ (row := none) (by simp), h2⟩
theorem MapU.lt (h : MapU w B l) : B < w.heap.size := by obtain ⟨D, h1, _⟩ := h; exact h1.lt
end
theorem wpList_store_u {w : World} {ops : Array Oper} {rest : List Oper} {o : Oper} {a : Act} {Q : Exit → Act → World → Prop} (hg : o.guard = none) (m x v : Operand) (hop : o.op = Op.mapUpdate 75 m x v)
    (B : Nat) (l : List Int) (hm : a.eval m = .map (some B)) (hown : MapU w B l) (hl : l.length ≤ 100000) (y : Int) (hx : a.eval x = .int .u64 y) (hv : a.eval v = .bool true) (hw : (Lit.int .u64 y).wf = true)
    (hK : ∀ w', MapU w' B (l ++ [y]) → w.grownBy w' (some B) → wpList Try.prog ops Q rest (a.put o.dst undef) w') :
    wpList Try.prog ops Q (o :: rest) a w := by
  obtain ⟨D, h1, h2⟩ := hown
  refine wpList_mapUpdate_own w hg m x v 75 hop 44 4 law64 Try.underlying75 (plainElem Try.prog 4) B l.length D hm h1 (by unfold maxLen; omega) _ _ _ hx hv (keyOf_int_mk Try.underlying44 hw) _ [] (plainElem_bool Try.underlying4 true) ?_
  intro w1 h3 h4
  refine hK w1 ⟨_, by rw [List.length_append]; exact h3, fun z => ?_⟩ h4
  by_cases hz : z = y
  · subst hz
    rw [has_put_same h1.isMap (k := .int .u64 z) (show WideAt.IsKeyLit _ from trivial)]
    simp
  · have hne : (Lit.int .u64 z) ≠ .int .u64 y := fun e => hz (by injection e)
    rw [has_put_other hne, h2 z]
    simp [hz]
/-- What has come so far. -/
def CollU (left : Lit → Bool) (l pre : List Int) (cnt : Nat) : Prop := pre.Pairwise (· ≠ ·) ∧ (∀ x : Int, x ∈ pre ↔ (x ∈ l ∧ left (.int .u64 x) = false)) ∧ pre.length + cnt ≤ l.length
theorem CollU.start {D : DataW Unit} {l : List Int} (h : SetU D l) (hs : Maps.size D ≤ l.length) : CollU (Maps.has D) l [] (Maps.size D) :=
  ⟨List.Pairwise.nil, fun x => ⟨fun h => (by cases h), fun ⟨h1, h2⟩ => by rw [h x, decide_eq_true h1] at h2; cases h2⟩, by rw [List.length_nil, Nat.zero_add]; exact hs⟩
theorem CollU.step {D : DataW Unit} {left : Lit → Bool} {l pre : List Int} {cnt cnt1 : Nat} {x : Int} {y : DataW Unit} (h : CollU left l pre cnt) (hS : SetU D l) (hl : left (.int .u64 x) = true) (hat : ∀ zd, D.atKey (.int .u64 x) zd = y) (hc : cnt1 < cnt) :
    x ∈ l ∧ pre.length + 1 ≤ l.length ∧ CollU (fun z => left z && !z.sameKey (.int .u64 x)) l (pre ++ [x]) cnt1 := by
  have h1 := has_true_of_atKey hat
  rw [hS x, decide_eq_true_iff] at h1
  obtain ⟨h2, h3, h4⟩ := h
  have hx : x ∉ pre := fun e => by have := ((h3 x).1 e).2; rw [hl] at this; cases this
  refine ⟨h1, by omega, ?_, fun z => ?_, by rw [List.length_append, List.length_singleton]; omega⟩
  · rw [List.pairwise_append]
    refine ⟨h2, List.pairwise_singleton _ _, fun p hp q hq => ?_⟩
    rw [List.mem_singleton] at hq
    subst hq
    exact fun e => hx (e ▸ hp)
  · rw [List.mem_append, List.mem_singleton, h3 z]
    by_cases hz : z = x
    · subst hz
      have hs : (Lit.int .u64 z).sameKey (.int .u64 z) = true := WideAt.sameKey_self (show WideAt.IsKeyLit _ from trivial)
      simp [hs, h1]
    · have hne : (Lit.int .u64 z) ≠ .int .u64 x := fun e => hz (by injection e)
      simp [sameKey_ne hne, hz]
theorem CollU.done {left : Lit → Bool} {l pre : List Int} {cnt : Nat} (h : CollU left l pre cnt) (hl : ∀ kl, left kl = false) : pre.Pairwise (· ≠ ·) ∧ (∀ x : Int, x ∈ pre ↔ x ∈ l) ∧ pre.length ≤ l.length :=
  ⟨h.1, fun x => by rw [h.2.1 x, hl]; simp, by have := h.2.2; omega⟩
/-- What a round keeps: maps and their iterators; the box. -/
def KpM (bi : Nat) (W W' : World) : Prop := KeepsWalks W W' ∧ W'.heap[bi]? = W.heap[bi]?
theorem KpM.trans {bi : Nat} (A B C : World) (h : KpM bi A B) (k : KpM bi B C) : KpM bi A C := ⟨h.1.trans k.1, k.2.trans h.2⟩
def AbM (W A B : World) : Prop := Below W.heap.size A B ∧ ∀ (k : Nat) (o : Obj), A.heap[k]? = some o → o.isWalk = false → B.heap[k]? = some o
theorem ranges_walks {w w' : World} {k : TypeId} {R : Value → Option (DataW Unit × List MemPlace)} {b r n cnt : Nat} {D : DataW Unit} {left : Lit → Bool} (h : w.ranges Try.prog k R b r n D left cnt) (hk : KeepsWalks w w') : w'.ranges Try.prog k R b r n D left cnt := by
  obtain ⟨es, clock, since, seen, c0, hb, F, hs, hD, hr, rest⟩ := h
  exact ⟨es, clock, since, seen, c0, hk.same b _ hb rfl, F, hs, hD, hk.same r _ hr rfl, rest⟩
set_option maxHeartbeats 4000000 in
set_option maxRecDepth 100000 in
theorem keys1_any (bi B : Nat) (l : List Int) (w : World) (hbi : w.heap[bi]? = some (.cells #[.map (some B)] 75 (0, 0))) (hm : MapU w B l) :
    SeqE Try.prog 50 #[.pointer (some ⟨bi, 0, none⟩)] (fun x : Int => #[.int .u64 x]) (KpM bi) AbM (fun pre x => x ∈ l ∧ pre.length + 1 ≤ l.length) (fun ys => ys.Pairwise (· ≠ ·) ∧ (∀ x : Int, x ∈ ys ↔ x ∈ l) ∧ ys.length ≤ l.length) w := by
  intro l1 J W hW hAb hY h0
  have hlt : bi < w.heap.size := (Array.getElem?_eq_some_iff.1 hbi).1
  have HJ := Lib.hid h0
  have HAb := Lib.hid hAb
  have HY := Lib.hid hY
  have hb0 := (hW.block bi hlt).trans hbi
  have HB := Lib.hid hb0
  obtain ⟨D, hown, hS⟩ := hm.below hW
  have Hown := Lib.hid hown
  have HS := Lib.hid hS
  have hcell := (cells1 hb0).1
  have HZ := Lib.hid hown.size_le
  clear hbi hm hW h0 hAb hY hlt hb0 hown hS
  refine calls_of_wp Try.func50 rfl ?_
  simp only [Try.ntmps50, List.size_toArray, List.length_cons, List.length_nil, Nat.reduceAdd, Nat.reduceSub, Array.replicate_succ, Array.replicate_zero, List.push_toArray, List.append_toArray, List.nil_append, List.cons_append]
  go_wp2_with (at_range; refine wpList_range_own _ rfl _ 75 rfl 44 4 law64 Try.underlying75 _ B l.length D rfl Hown.out ?_)
  intro w2 hrg0 hg0 hs0
  have HR0 := Lib.hid hrg0
  have HJ := Lib.hid (HAb.out [] W w2 HJ.out ⟨⟨hg0.os, hg0.tape, hg0.output, hg0.size, fun i hi => hg0.block i hi (by simp)⟩, fun k o hk _ => (hg0.block k (Array.getElem?_eq_some_iff.1 hk).1 (by simp)).trans hk⟩)
  have HB := Lib.hid ((hg0.block bi (Array.getElem?_eq_some_iff.1 HB.out).1 (by simp)).trans HB.out)
  clear hrg0 hg0 hs0 Hown hcell
  go_wp2_with fail
  go_loopw [3] (fun _ wr => Hid (∃ pre left cnt, J pre wr ∧ wr.ranges Try.prog 44 (plainElem Try.prog 4) B W.heap.size l.length D left cnt ∧ wr.heap[bi]? = some (.cells #[.map (some B)] 75 (0, 0)) ∧ CollU left l pre cnt)) (fun _ wr => wr.rangeLeft B W.heap.size)
  case atStart => exact Lib.hid ⟨[], _, _, HJ.out, HR0.out, HB.out, CollU.start HS.out HZ.out⟩
  case round =>
    clear HJ HR0 HB
    obtain ⟨pre, left, cnt, hj, hrg, hbb, hcl⟩ := hrel.out
    have HJ := Lib.hid hj
    have HR := Lib.hid hrg
    have HB := Lib.hid hbb
    have HC := Lib.hid hcl
    obtain ⟨wo, rfl⟩ : ∃ wo : World, wo = wr := ⟨_, rfl⟩
    clear hrel hj hrg hbb hcl
    go_wp2_with (at_next; refine wpList_next_ranges _ rfl _ rfl 44 law64 _ (Value.int .u64) (id : Value → Value) (fun key kl hkey => by obtain ⟨x, rfl, _⟩ := keyOf_int_inv Try.underlying44 hkey; exact ⟨x, rfl⟩) (fun v y _ => ⟨v, rfl⟩) B W.heap.size l.length _ _ _ rfl HR.out ?_ ?_)
    · intro hc0 hl0
      have HD := Lib.hid (HC.out.done hl0)
      clear hc0 hl0
      go_wp2_with fail
      go_end0
      exact ⟨⟨_, rfl⟩, pre, HD.out, HJ.out⟩
    · intro x c kl yd yp wz cnt1 hkey hlk hv hat hrg hlt hgr hsz hen
      obtain ⟨x', ex, rfl, hwx⟩ := keyOf_int_inv Try.underlying44 hkey
      obtain rfl : x = x' := by injection ex
      obtain ⟨h1, h2, h3⟩ := HC.out.step HS.out hlk hat hlt
      have HRz := Lib.hid hrg
      have HLt := Lib.hid hlt
      have HC1 := Lib.hid h3
      have hab : AbM W wo wz := ⟨(Below.refl W.heap.size wo).grown hgr (Nat.le_of_lt (Nat.lt_of_le_of_lt (Nat.le_refl _) HR.out.lt)) (fun j hj => by cases hj; exact Nat.le_refl _), fun k o hk ho => (hgr.block k (Array.getElem?_eq_some_iff.1 hk).1 (fun e => by
        have e : k = W.heap.size := Option.some.inj e
        obtain ⟨_, _, _, _, _, _, _, _, _, hr, _⟩ := HR.out
        rw [← e, hk] at hr
        injection hr with hr
        subst hr
        cases ho)).trans hk⟩
      have HY2 := Lib.hid (HY.out pre x wz (HAb.out _ _ _ HJ.out hab) ⟨h1, h2⟩)
      have HBz := Lib.hid ((hgr.block bi (Array.getElem?_eq_some_iff.1 HB.out).1 (fun e => by
        have e : bi = W.heap.size := Option.some.inj e
        obtain ⟨_, _, _, _, _, _, _, _, _, hr, _⟩ := HR.out
        rw [← e, HB.out] at hr
        cases hr)).trans HB.out)
      clear hrg hlt hkey hlk hv hat hgr hsz ex hwx h1 h2 h3 hab
      go_upto_region 3 with fail
      obtain ⟨fn, tmps, assign, body, hy, hR⟩ := HY2.out
      try dsimp only at hy hR
      have HRn := Lib.hid hR
      clear hR HY2 hen
      refine (wpIn_wide (n := 0)).1 ?_
      gi_wp2
      refine ⟨rfl, ?_⟩
      refine HRn.out.mono ?_
      rintro e W3 ⟨rfl, hJ3, hk3⟩
      have HB3 := Lib.hid (hk3.2.trans HBz.out)
      have HR3 := Lib.hid (ranges_walks HRz.out hk3.1)
      have HJ3 := Lib.hid hJ3
      clear hJ3 hk3 hy HRn
      gi_wp2
      go_wp2_with fail
      case roundEnd =>
        exact ⟨Lib.hid ⟨pre ++ [x], _, cnt1, HJ3.out, HR3.out, HB3.out, HC1.out⟩, by rw [HR3.out.left_eq, HR.out.left_eq]; exact HLt.out⟩
theorem keys_any (B : Nat) (w : World) :
    Calls Try.prog 30 #[.map (some B)] w fun e w' => e = .returned (.func (.func 50) #[] #[.pointer (some ⟨w.heap.size, 0, none⟩)]) ∧ w.alloc (.cells #[.map (some B)] 75) = w' := by
  go_enter Try.func30, Try.ntmps30
  go_wp2
  go_ret
  exact ⟨rfl, rfl⟩
end Go.Proofs.Ytebcginnnjigjaa
