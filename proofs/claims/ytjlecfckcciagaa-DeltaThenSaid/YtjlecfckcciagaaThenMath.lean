/- One list of puts, and then another one, as one: the plain law. -/
import Derived.Test.YtjlecfckcciagaaDelMath
open Go.RowKit
namespace Go.Proofs.Ytjlecfckcciagaa

/-- What a list says first of a place. -/
def firstOf : List (Int × ByteArray) → Int → Option ByteArray
  | [], _ => none
  | p :: l, k => if p.1 = k then some p.2 else firstOf l k
def upP (l : List (Int × ByteArray)) : Prop := l.Pairwise fun p q => p.1 < q.1
def insR (p : Int × ByteArray) : List (Int × ByteArray) → List (Int × ByteArray)
  | [] => [p]
  | q :: l => if q.1 < p.1 then q :: insR p l else p :: q :: l
def putR (out : List (Int × ByteArray)) (p : Int × ByteArray) : List (Int × ByteArray) := if (firstOf out p.1).isSome = true then out else insR p out
def thenL (a b : List (Int × ByteArray)) : List (Int × ByteArray) := (b ++ a).foldl putR []

theorem firstOf_none {l : List (Int × ByteArray)} {k : Int} : firstOf l k = none ↔ ∀ p ∈ l, p.1 ≠ k := by
  induction l with
  | nil => simp [firstOf]
  | cons q l ih =>
    rw [firstOf]
    by_cases h : q.1 = k
    · rw [if_pos h]; simp [h]
    · rw [if_neg h, ih]; simp [h]
theorem firstOf_append (a b : List (Int × ByteArray)) (k : Int) : firstOf (a ++ b) k = (firstOf a k).or (firstOf b k) := by
  induction a with
  | nil => simp [firstOf]
  | cons q l ih =>
    rw [List.cons_append, firstOf, firstOf]
    by_cases h : q.1 = k
    · rw [if_pos h, if_pos h]; rfl
    · rw [if_neg h, if_neg h, ih]
theorem insR_mem {p x : Int × ByteArray} {l : List (Int × ByteArray)} : x ∈ insR p l ↔ x = p ∨ x ∈ l := by
  induction l with
  | nil => simp [insR]
  | cons q l ih =>
    rw [insR]
    by_cases h : q.1 < p.1
    · rw [if_pos h, List.mem_cons, ih, List.mem_cons]
      constructor
      · rintro (h1 | h1 | h1)
        · exact .inr (.inl h1)
        · exact .inl h1
        · exact .inr (.inr h1)
      · rintro (h1 | h1 | h1)
        · exact .inr (.inl h1)
        · exact .inl h1
        · exact .inr (.inr h1)
    · rw [if_neg h, List.mem_cons]
theorem insR_up {p : Int × ByteArray} {l : List (Int × ByteArray)} (h : upP l) (hp : ∀ q ∈ l, q.1 ≠ p.1) : upP (insR p l) := by
  induction l with
  | nil => exact List.pairwise_singleton _ _
  | cons q l ih =>
    obtain ⟨h1, h2⟩ := List.pairwise_cons.1 h
    rw [insR]
    by_cases hq : q.1 < p.1
    · rw [if_pos hq]
      refine List.pairwise_cons.2 ⟨fun x hx => ?_, ih h2 fun x hx => hp x (List.mem_cons_of_mem _ hx)⟩
      rcases insR_mem.1 hx with rfl | h3
      · exact hq
      · exact h1 x h3
    · rw [if_neg hq]
      have hne := hp q (List.mem_cons_self ..)
      refine List.pairwise_cons.2 ⟨fun x hx => ?_, h⟩
      rcases List.mem_cons.1 hx with rfl | h3
      · omega
      · have := h1 x h3; omega
theorem firstOf_up {l : List (Int × ByteArray)} (h : upP l) {p : Int × ByteArray} (hp : p ∈ l) : firstOf l p.1 = some p.2 := by
  induction l with
  | nil => cases hp
  | cons q l ih =>
    obtain ⟨h1, h2⟩ := List.pairwise_cons.1 h
    rw [firstOf]
    rcases List.mem_cons.1 hp with rfl | h3
    · rw [if_pos rfl]
    · have := h1 p h3
      rw [if_neg (by omega), ih h2 h3]
theorem firstOf_mem {l : List (Int × ByteArray)} {k : Int} {s : ByteArray} (h : firstOf l k = some s) : (k, s) ∈ l := by
  induction l with
  | nil => cases h
  | cons q l ih =>
    rw [firstOf] at h
    by_cases hq : q.1 = k
    · rw [if_pos hq] at h
      injection h with h
      subst hq h
      exact List.mem_cons_self ..
    · rw [if_neg hq] at h
      exact List.mem_cons_of_mem _ (ih h)
theorem firstOf_ins {p : Int × ByteArray} {l : List (Int × ByteArray)} (h : upP l) (hp : ∀ q ∈ l, q.1 ≠ p.1) (k : Int) : firstOf (insR p l) k = if p.1 = k then some p.2 else firstOf l k := by
  have hu := insR_up h hp
  by_cases hk : p.1 = k
  · rw [if_pos hk, ← hk]
    exact firstOf_up hu (insR_mem.2 (.inl rfl))
  · rw [if_neg hk]
    cases h1 : firstOf l k with
    | none =>
      rw [firstOf_none] at h1 ⊢
      intro x hx
      rcases insR_mem.1 hx with rfl | h3
      · exact hk
      · exact h1 x h3
    | some s => exact firstOf_up (p := (k, s)) hu (insR_mem.2 (.inr (firstOf_mem h1)))
theorem putR_law {l : List (Int × ByteArray)} (h : upP l) (p : Int × ByteArray) : upP (putR l p) ∧ ∀ k, firstOf (putR l p) k = (firstOf l k).or (if p.1 = k then some p.2 else none) := by
  unfold putR
  cases h1 : firstOf l p.1 with
  | none =>
    rw [if_neg (by simp)]
    have h2 := firstOf_none.1 h1
    refine ⟨insR_up h h2, fun k => ?_⟩
    rw [firstOf_ins h h2]
    by_cases hk : p.1 = k
    · rw [if_pos hk, if_pos hk, ← hk, h1]; rfl
    · rw [if_neg hk, if_neg hk]; simp
  | some s =>
    rw [if_pos (by simp)]
    refine ⟨h, fun k => ?_⟩
    by_cases hk : p.1 = k
    · rw [← hk, h1]; rfl
    · rw [if_neg hk]; simp
theorem fold_law : ∀ (m l : List (Int × ByteArray)), upP l → upP (m.foldl putR l) ∧ ∀ k, firstOf (m.foldl putR l) k = (firstOf l k).or (firstOf m k)
  | [], l, h => ⟨h, fun k => by simp [firstOf]⟩
  | p :: m, l, h => by
    obtain ⟨h1, h2⟩ := putR_law h p
    obtain ⟨h3, h4⟩ := fold_law m (putR l p) h1
    refine ⟨h3, fun k => ?_⟩
    rw [List.foldl_cons, h4, h2, Option.or_assoc, firstOf]
    by_cases hk : p.1 = k
    · rw [if_pos hk, if_pos hk]; rfl
    · rw [if_neg hk, if_neg hk]; rfl
theorem then_law (a b : List (Int × ByteArray)) : upP (thenL a b) ∧ ∀ k, firstOf (thenL a b) k = firstOf (b ++ a) k := by
  obtain ⟨h1, h2⟩ := fold_law (b ++ a) [] List.Pairwise.nil
  exact ⟨h1, fun k => by rw [thenL, h2]; rfl⟩
/-- Two rising lists that say the same are one. -/
theorem up_ext : ∀ (l m : List (Int × ByteArray)), upP l → upP m → (∀ k, firstOf l k = firstOf m k) → l = m
  | [], [], _, _, _ => rfl
  | [], q :: m, _, hm, h => by
    have := h q.1
    rw [firstOf_up hm (List.mem_cons_self ..)] at this
    cases this
  | p :: l, [], hl, _, h => by
    have := h p.1
    rw [firstOf_up hl (List.mem_cons_self ..)] at this
    cases this
  | p :: l, q :: m, hl, hm, h => by
    obtain ⟨h1, h2⟩ := List.pairwise_cons.1 hl
    obtain ⟨h3, h4⟩ := List.pairwise_cons.1 hm
    have e1 := h p.1
    rw [firstOf_up hl (List.mem_cons_self ..)] at e1
    have e2 := h q.1
    rw [firstOf_up hm (List.mem_cons_self ..)] at e2
    have m1 : (p.1, p.2) ∈ q :: m := firstOf_mem e1.symm
    have m2 : (q.1, q.2) ∈ p :: l := firstOf_mem e2
    have hpq : p = q := by
      rcases List.mem_cons.1 m1 with e | e
      · exact e
      · rcases List.mem_cons.1 m2 with e' | e'
        · exact e'.symm
        · have := h3 _ e
          have := h1 _ e'
          simp only at *
          omega
    subst hpq
    refine congrArg _ (up_ext l m h2 h4 fun k => ?_)
    by_cases hk : p.1 = k
    · have n1 : firstOf l k = none := firstOf_none.2 fun x hx => by have := h1 x hx; omega
      have n2 : firstOf m k = none := firstOf_none.2 fun x hx => by have := h3 x hx; omega
      rw [n1, n2]
    · have := h k
      rwa [firstOf, firstOf, if_neg hk, if_neg hk] at this
/-- What is written where. -/
theorem apply_at : ∀ (l : List (Int × ByteArray)) (m : List ByteArray) (j : Nat), upP l → (∀ p ∈ l, 0 ≤ p.1) → j < m.length → (applyL m l)[j]? = (firstOf l j).or m[j]?
  | [], m, j, _, _, _ => by simp [applyL, firstOf]
  | p :: l, m, j, hu, h0, hj => by
    obtain ⟨h1, h2⟩ := List.pairwise_cons.1 hu
    have hp := h0 p (List.mem_cons_self ..)
    rw [applyL_cons, apply_at l _ j h2 (fun q hq => h0 q (List.mem_cons_of_mem _ hq)) (by rw [List.length_set]; exact hj), firstOf]
    by_cases hk : p.1 = (j : Int)
    · have n1 : firstOf l (j : Int) = none := firstOf_none.2 fun x hx => by have := h1 x hx; omega
      rw [if_pos hk, n1, hk, Int.toNat_natCast, List.getElem?_set_self hj]
      rfl
    · rw [if_neg hk, List.getElem?_set_ne (by omega)]
theorem right_up : ∀ (l : List (Int × ByteArray)) (z : Int), rightFrom z l = true ↔ (upP l ∧ ∀ p ∈ l, z < p.1 ∧ p.1 < 128 ∧ rightS p.2 = true)
  | [], z => by simp [rightFrom, upP]
  | (x, s) :: l, z => by
    constructor
    · intro h
      have h1 := rightFrom_all h
      by_cases hx : x ≤ z
      · rw [rightFrom_low hx] at h; cases h
      by_cases hx2 : 128 ≤ x
      · rw [rightFrom_high hx2] at h; cases h
      cases hs : rightS s with
      | false => rw [rightFrom_odd hs] at h; cases h
      | true =>
        rw [rightFrom_step hx hx2 hs] at h
        obtain ⟨h2, h3⟩ := (right_up l x).1 h
        exact ⟨List.pairwise_cons.2 ⟨fun q hq => (h3 q hq).1, h2⟩, h1⟩
    · rintro ⟨h1, h2⟩
      obtain ⟨h3, h4⟩ := List.pairwise_cons.1 h1
      obtain ⟨h5, h6, h7⟩ := h2 (x, s) (List.mem_cons_self ..)
      simp only at h5 h6 h7 h3
      rw [rightFrom_step (by omega) (by omega) h7]
      exact (right_up l x).2 ⟨h4, fun q hq => ⟨h3 q hq, (h2 q (List.mem_cons_of_mem _ hq)).2⟩⟩
theorem then_mem {a b : List (Int × ByteArray)} {p : Int × ByteArray} (h : p ∈ thenL a b) : p ∈ a ∨ p ∈ b := by
  obtain ⟨h1, h2⟩ := then_law a b
  have e := firstOf_up h1 h
  rw [h2] at e
  have := firstOf_mem e
  rcases List.mem_append.1 this with h3 | h3
  · exact .inr h3
  · exact .inl h3
/-- Of those that can be written, it is written as both. -/
theorem then_apply {m : List ByteArray} {a b : List (Int × ByteArray)} (ha : mayE m.length a = 0) (hb : mayE (applyR m a).length b = 0) : mayE m.length (thenL a b) = 0 ∧ applyR m (thenL a b) = applyR (applyR m a) b := by
  have la : (applyR m a).length = m.length := by rw [applyR_ok ha, applyL_length]
  have hb' := hb
  rw [la] at hb'
  obtain ⟨a1, a2⟩ := mayE_zero ha
  obtain ⟨b1, b2⟩ := mayE_zero hb'
  obtain ⟨a3, a4⟩ := (right_up a (-1)).1 a1
  obtain ⟨b3, b4⟩ := (right_up b (-1)).1 b1
  obtain ⟨t1, t2⟩ := then_law a b
  have hr : rightP (thenL a b) = true := (right_up _ (-1)).2 ⟨t1, fun p hp => by
    rcases then_mem hp with h | h
    · exact a4 p h
    · exact b4 p h⟩
  have hm : mayE m.length (thenL a b) = 0 := mayE_ok hr fun p hp => by
    rcases then_mem hp with h | h
    · exact (a2 p h).2
    · exact (b2 p h).2
  refine ⟨hm, ?_⟩
  rw [applyR_ok hm, applyR_ok hb, applyR_ok ha]
  refine List.ext_getElem? fun j => ?_
  by_cases hj : j < m.length
  · rw [apply_at _ _ j t1 (fun p hp => by rcases then_mem hp with h | h; exact (a2 p h).1; exact (b2 p h).1) hj, apply_at b _ j b3 (fun p hp => (b2 p hp).1) (by rw [applyL_length]; exact hj),
      apply_at a m j a3 (fun p hp => (a2 p hp).1) hj, t2, firstOf_append, Option.or_assoc]
  · rw [List.getElem?_eq_none (by rw [applyL_length]; omega), List.getElem?_eq_none (by rw [applyL_length, applyL_length]; omega)]
end Go.Proofs.Ytjlecfckcciagaa
