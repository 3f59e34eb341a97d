/- One, and then another one, as one: walked. -/
import Derived.Test.YtjlecfckcciagaaThen4
open Go.RowKit Go.Maps
namespace Go.Proofs.Ytjlecfckcciagaa

/-! ### what has been taken out of the map -/
/-- No place twice, and what is no longer to come is what the list says. -/
def Coll (left : Lit → Bool) (l ls : List (Int × ByteArray)) : Prop := ls.Pairwise (fun p q => p.1 ≠ q.1) ∧ ∀ x : Int, firstOf ls x = if left (.int .i64 x) then none else firstOf l x
theorem Coll.start {D : DataW Unit} {l : List (Int × ByteArray)} (h : Says D l) : Coll (Maps.has D) l [] := ⟨List.Pairwise.nil, fun x => by
  rw [(h x).1]
  cases hf : firstOf l x with
  | none => rfl
  | some s => rfl⟩
theorem Coll.step {D : DataW Unit} {l ls : List (Int × ByteArray)} {left : Lit → Bool} {x : Int} {s : ByteArray} (h : Coll left l ls) (hS : Says D l) (hl : left (.int .i64 x) = true) (hat : ∀ zd, D.atKey (.int .i64 x) zd = .lit (.string s.data.toList)) :
    Coll (fun z => left z && !z.sameKey (.int .i64 x)) l (ls ++ [(x, s)]) := by
  have hx : firstOf ls x = none := by rw [h.2 x, hl]; rfl
  have hl2 : firstOf l x = some s := by
    have h1 := has_true_of_atKey hat
    rw [(hS x).1] at h1
    obtain ⟨s2, h2⟩ := Option.isSome_iff_exists.1 h1
    have h3 := (hS x).2 s2 h2 (.lit (.string []))
    rw [hat] at h3
    injection h3 with h3
    injection h3 with h3
    have h4 : s = s2 := by
      cases s; cases s2
      congr 1
      exact Array.ext' h3
    rw [h2, h4]
  refine ⟨?_, fun k => ?_⟩
  · rw [List.pairwise_append]
    refine ⟨h.1, List.pairwise_singleton _ _, fun p hp q hq => ?_⟩
    rw [List.mem_singleton] at hq
    subst hq
    exact firstOf_none.1 hx p hp
  · rw [firstOf_snoc, h.2 k]
    by_cases hk : x = k
    · subst hk
      have hs : (Lit.int .i64 x).sameKey (.int .i64 x) = true := WideAt.sameKey_self (show WideAt.IsKeyLit _ from trivial)
      simp [hl, hl2, hs]
    · have hne : (Lit.int .i64 k) ≠ .int .i64 x := fun e => hk (by injection e with _ e; exact e.symm)
      simp [sameKey_ne hne, hk]
theorem Coll.done {l ls : List (Int × ByteArray)} {left : Lit → Bool} (h : Coll left l ls) (hl : ∀ kl, left kl = false) (k : Int) : firstOf ls k = firstOf l k := by rw [h.2 k, hl]; rfl
theorem firstOf_apart {l : List (Int × ByteArray)} (h : l.Pairwise (fun p q => p.1 ≠ q.1)) {p : Int × ByteArray} (hp : p ∈ l) : firstOf l p.1 = some p.2 := by
  induction l with
  | nil => cases hp
  | cons q l ih =>
    obtain ⟨h1, h2⟩ := List.pairwise_cons.1 h
    rw [firstOf]
    rcases List.mem_cons.1 hp with rfl | h3
    · rw [if_pos rfl]
    · rw [if_neg (h1 p h3), ih h2 h3]
/-- Sorted by place, it is the list that rises. -/
theorem sorted_is {a b ls qs : List (Int × ByteArray)} (h1 : ls.Pairwise (fun p q => p.1 ≠ q.1)) (h2 : ∀ k, firstOf ls k = firstOf (b ++ a) k) (hp : qs.Perm ls) (hs : qs.Pairwise (fun p q => ¬ q.1 < p.1)) : qs = thenL a b := by
  obtain ⟨t1, t2⟩ := then_law a b
  have hq : qs.Pairwise (fun p q => p.1 ≠ q.1) := (hp.pairwise_iff (fun {_ _} h => Ne.symm h)).2 h1
  refine up_ext qs _ ((hs.and hq).imp fun h => by omega) t1 fun k => ?_
  rw [t2, ← h2]
  cases hf : firstOf ls k with
  | none =>
    rw [firstOf_none] at hf ⊢
    exact fun p hpq => hf p (hp.mem_iff.1 hpq)
  | some s => exact firstOf_apart (p := (k, s)) hq (hp.mem_iff.2 (firstOf_mem hf))

section
variable {w w1 : World} {A : Option Addr} {c : Nat} {ps : List (Int × ByteArray)}
theorem URow.ne_map (h : URow w A c ps) {B : Nat} {es : Array MapEntry} {cl : Nat} (hb : w.heap[B]? = some (.map es cl)) : blk A ≠ some B := by
  rcases h.2 with ⟨hn, _⟩ | ⟨g, cap, cur, hv, _, hg, _⟩
  · injection hn with h1; subst h1; simp [blk]
  · injection hv with h1; subst h1
    intro e
    have e : g = B := by simpa [blk] using e
    subst e
    rw [hb] at hg; cases hg
theorem URow.ne_iter (h : URow w A c ps) {b r n cnt : Nat} {P : Program} {k : TypeId} {R : Value → Option (DataW Unit × List MemPlace)} {D : DataW Unit} {left : Lit → Bool} (hr : w.ranges P k R b r n D left cnt) : some r ≠ blk A := by
  obtain ⟨_, _, _, _, _, _, _, _, _, hb, _⟩ := hr
  rcases h.2 with ⟨hn, _⟩ | ⟨g, cap, cur, hv, _, hg, _⟩
  · injection hn with h1; subst h1; simp [blk]
  · injection hv with h1; subst h1
    intro e
    have e : r = g := by simpa [blk] using e
    subst e
    rw [hb] at hg; cases hg
end
theorem grown_of_chg {w w1 : World} {A : Option Addr} (h : Chg (fun i => blk A = some i) w w1) : w.grownBy w1 (blk A) := ⟨h.os, h.tape, h.output, h.size, fun i hi hne => h.block i hi (fun e => hne e.symm)⟩

set_option maxHeartbeats 4000000 in
set_option maxRecDepth 100000 in
theorem then_any (w : World) (A B : Option Addr) (a b : List (Int × ByteArray)) (c d : Nat) (hr : Reads w 2 A a.length (pks a)) (hs : Reads w 2 B b.length (pks b)) (ha : a.length ≤ 1000) (hb : b.length ≤ 1000) (ka : KW a) (kb : KW b) :
    Calls Try.prog 7 #[.slice A a.length c, .slice B b.length d] w fun e w' => ∃ A1 c1, e = .returned (.slice A1 (thenL a b).length c1) ∧ PutOut w w' A1 c1 (thenL a b) := by
  have HP := Lib.hid (byPlace_any w A B a b c d hr hs ha hb ka kb)
  have hL : (b ++ a).length ≤ 2000 := by simp; omega
  clear hr hs ka kb
  go_enter Try.func7, Try.ntmps7
  go_wp2_with fail
  refine HP.out.mono ?_
  rintro e w1 ⟨rfl, hm, hb1⟩
  obtain ⟨D, hown, hS⟩ := hm
  have HS := Lib.hid hS
  have HT : Hid (∀ ls qs, ls.Pairwise (fun p q => p.1 ≠ q.1) → (∀ k, firstOf ls k = firstOf (b ++ a) k) → qs.Perm ls → qs.Pairwise (fun p q => ¬ q.1 < p.1) → qs = thenL a b) := Lib.hid fun _ _ => sorted_is
  generalize b ++ a = l at HS hown hL HT
  have Hown := Lib.hid hown
  have Hb1 := Lib.hid hb1
  clear hown hS HP hb1
  go_wp2_with (at_range; refine wpList_range_own _ rfl _ 40 rfl 3 9 lawI Try.underlying40 _ w.heap.size l.length D rfl Hown.out ?_)
  intro w2 hrg0 hg0 hs0
  have HR0 := Lib.hid hrg0
  have HB0 : Hid (Below w.heap.size w w2) := Lib.hid (Hb1.out.grown hg0 Hb1.out.size (fun j hj => by cases hj))
  have HZ := Lib.hid Hown.out.size_le
  have HW1 := Lib.hid Hb1.out.size
  clear hrg0 hg0 hs0 Hown
  go_wp2_with fail
  go_loopw [5] (fun v wr => ∃ (left : Lit → Bool) (cnt : Nat) (A1 : Option Addr) (c1 : Nat) (ls : List (Int × ByteArray)), v = .slice A1 ls.length c1 ∧ Hid (wr.ranges Try.prog 3 (plainElem Try.prog 9) w.heap.size w1.heap.size l.length D left cnt) ∧ Hid (Coll left l ls) ∧ Hid (ls.length + cnt ≤ l.length) ∧ Hid (PutOut w wr A1 c1 ls)) (fun _ wr => wr.rangeLeft w.heap.size w1.heap.size)
  case atStart => exact ⟨_, _, none, 0, [], rfl, HR0, Lib.hid (Coll.start HS.out), Lib.hid (by rw [List.length_nil, Nat.zero_add]; exact HZ.out), Lib.hid ⟨URow.nil _, by simp [blk], HB0.out⟩⟩
  case round =>
    clear HR0 HB0
    obtain ⟨left, cnt, A1, c1, ls, rfl, HR, HC, HN, HO⟩ := hrel
    go_wp2_with (at_next; refine wpList_next_ranges_is _ rfl _ rfl 3 9 .i64 lawI Try.underlying3 Try.underlying9 w.heap.size w1.heap.size l.length _ _ _ rfl HR.out ?_ ?_)
    · intro hc0 hl0
      have HD := Lib.hid (HC.out.done hl0)
      have HSo := Lib.hid (sortPuts_any wr A1 c1 ls HO.out.1 (by have := HN.out; omega))
      clear hc0 hl0
      go_wp2_with fail
      refine HSo.out.mono ?_
      rintro e w3 ⟨rfl, qs, hp, hsrt, hrow, hchg⟩
      have HQ := Lib.hid (HT.out ls qs HC.out.1 HD.out hp hsrt)
      have HQl := Lib.hid hp.length_eq
      have HO3 : Hid (PutOut w w3 A1 c1 qs) := Lib.hid ⟨hrow, HO.out.2.1, HO.out.2.2.trans (hchg.below (fun i hi e => by have := HO.out.2.1 i e; omega) HO.out.2.2.size)⟩
      clear hp hsrt hrow hchg HSo
      go_wp2_with fail
      go_ret
      exact ⟨A1, c1, by rw [← HQ.out, HQl.out]; rfl, by rw [← HQ.out]; exact HO3.out⟩
    · intro x s wz cnt1 hwx hsx hlx hat hrg hlt hgr hsz hen
      have HRz := Lib.hid hrg
      have HLt := Lib.hid hlt
      have HC1 := Lib.hid (HC.out.step HS.out hlx hat)
      have HO1 : Hid (PutOut w wz A1 c1 ls) := Lib.hid (by
        have hc : Chg (fun i => some i = some w1.heap.size) wr wz := Chg.of_grown hgr
        exact ⟨HO.out.1.chg hc (fun k hk e => (HO.out.1.ne_iter HR.out) (by rw [hk]; exact e.symm)), HO.out.2.1, HO.out.2.2.trans (hc.below (fun i hi e => by have := Option.some.inj e; have := HW1.out; omega) HO.out.2.2.size)⟩)
      clear hrg hlt hwx hsx hlx hat hgr hsz
      have HX := Lib.hid (show URow (wz.alloc (.cells #[.int .i64 x, .string s] 35)) A1 c1 ls ∧ Reads (wz.alloc (.cells #[.int .i64 x, .string s] 35)) 2 (some ⟨wz.heap.size, 0, none⟩) 1 (pks [(x, s)]) from
        ⟨HO1.out.1.below ((Below.refl _ _).alloc (Nat.le_refl _) _), Reads.of_block (n := 1) (heap_alloc_new _ _) rfl⟩)
      have HNl := Lib.hid (show ls.length + 1 ≤ 100000 by have := HN.out; omega)
      go_wp2_with (at_builtin; refine wpList_append_put rfl (.tmp 17) (.tmp 21) rfl A1 c1 ls rfl HX.out.1 (some ⟨wz.heap.size, 0, none⟩) 1 [(x, s)] 1 rfl rfl HX.out.2 HNl.out ?_)
      intro A2 c2 w5 hrow hchg hblk
      have hC : Chg (fun i => blk A1 = some i) wz w5 := ((Chg.refl (fun i => blk A1 = some i) wz).alloc _).trans hchg (fun _ _ h => h)
      have HO2 := Lib.hid (HO1.out.grow hrow hC (fun k hk => by
        rcases hblk k hk with h | h
        · exact .inl h
        · right; have := HO1.out.2.2.size; omega))
      have HR2 := Lib.hid (HRz.out.kept (grown_of_chg hC) (by
        obtain ⟨es, cl, hb, _⟩ := HRz.out.owns
        exact (HO1.out.1.ne_map hb).symm) (HO1.out.1.ne_iter HRz.out))
      clear hrow hchg hblk hC hen
      go_wp2_with fail
      case roundEnd =>
        exact ⟨⟨_, cnt1, A2, c2, ls ++ [(x, s)], by simp, HR2, HC1, Lib.hid (by rw [List.length_append, List.length_singleton]; have := HN.out; have := HLt.out; omega), HO2⟩, by rw [HR2.out.left_eq, HR.out.left_eq]; exact HLt.out⟩
end Go.Proofs.Ytjlecfckcciagaa
