/- As Mix: behind operations that only read, two that may do anything are ready at once: each order is walked. -/
import Derived.Test.YtiolfnnkkflaiaaDoorMix3
open Go.RowKit
namespace Go.Proofs.YtiolfnnkkflaiaaDoor
section
variable {P : Program} {ops : Array Oper} {Q : Exit → Act → World → Prop} {R : World → World → Prop} {ds : List Nat}

/-- What only reads, one after another; then either of two. -/
def forkL (P : Program) (ops : Array Oper) (Q : Exit → Act → World → Prop) (R : World → World → Prop) (ds : List Nat) (l1 l2 : List (Nat × Nat)) : List Nat → Act → World → Prop
  | [], a, w => mixL3 P ops Q R ds l1 a w ∧ mixL3 P ops Q R ds l2 a w
  | i :: rest, a, w => ∃ o v, ops[i]? = some o ∧ YieldsIf P ops (R w) o v a ∧ forkL P ops Q R ds l1 l2 rest (a.put o.dst v) w
def forkOk (md : Region.Mode) (ops : Array Oper) (ds : List Nat) (i j : Nat) (r1 r2 : List (Nat × Nat)) : List Nat → Array Bool → Bool
  | [], listed => (Region.ready md ops listed == [i, j]) && mixOk3 md ops ds r1 (listed.setIfInBounds i true) && mixOk3 md ops ds r2 (listed.setIfInBounds j true)
  | p :: rest, listed => Region.free md ops listed p && (Region.ready md ops listed).contains p && (ds.all fun d => listed.getD d true || waitsB md ops p ops.size d) && forkOk md ops ds i j r1 r2 rest (listed.setIfInBounds p true)

theorem wpAnyR_of_fork {md : Region.Mode} (hrefl : ∀ w, R w w) (htrans : ∀ a b c, R a b → R b c → R a c) (hs : Region.noSelect ops = true) (hQ : ∀ d v c a w, Q (.panic c) (Act.put a d v) w → Q (.panic c) a w) (i j : Nat) (r1 r2 : List (Nat × Nat)) (hlen : r1.length = r2.length) :
    ∀ (l : List Nat) (listed : Array Bool) (a : Act) (w : World), Closed md ops listed → forkOk md ops ds i j r1 r2 l listed = true → forkL P ops Q R ds ((2, i) :: r1) ((2, j) :: r2) l a w → wpAnyR P md ops Q R ds (l.length + (r1.length + 1)) listed a w
  | [], listed, a, w, hc, hok, h => by
    simp only [forkOk, Bool.and_eq_true, beq_iff_eq] at hok
    obtain ⟨⟨h1, h2⟩, h3⟩ := hok
    rw [List.length_nil, Nat.zero_add]
    refine ⟨fun h0 => absurd (h1 ▸ h0) (by simp), fun k hk => ?_⟩
    have hk' := hk
    rw [h1] at hk
    simp only [List.mem_cons, List.mem_nil_iff, or_false] at hk
    rcases hk with rfl | rfl
    · exact wpOp_mono (fun a' w' h5 => ⟨h5.1, wpAnyR_of_mix3 hrefl htrans hs hQ r1 _ _ _ (hc.set hk') h2 h5.2⟩) h.1
    · rw [hlen]
      exact wpOp_mono (fun a' w' h5 => ⟨h5.1, wpAnyR_of_mix3 hrefl htrans hs hQ r2 _ _ _ (hc.set hk') h3 h5.2⟩) h.2
  | p :: rest, listed, a, w, hc, hok, h => by
    simp only [forkOk, Bool.and_eq_true] at hok
    obtain ⟨⟨⟨h1, h2⟩, h5⟩, h3⟩ := hok
    obtain ⟨o, v, hi, hy, h4⟩ := h
    have h6 : p ∈ Region.ready md ops listed := by simpa using h2
    have e : (p :: rest).length + (r1.length + 1) = (rest.length + (r1.length + 1)) + 1 := by simp only [List.length_cons]; omega
    rw [e]
    exact wpAnyR_first hrefl htrans hi (Region.noSelect_spec hs) (fun c a w => hQ _ _ c a w) ops.size _ listed a w (Region.free_spec hi h1) hc
      (fun d hm hun => by have := List.all_eq_true.1 h5 d hm; rw [hun] at this; simpa using this) h6 hy (wpAnyR_of_fork hrefl htrans hs hQ i j r1 r2 hlen rest _ _ _ (hc.set h6) h3 h4)

def forkStart (ops : Array Oper) (ds : List Nat) (pre : List Nat) (i j : Nat) (r1 r2 : List (Nat × Nat)) : Bool :=
  Region.noSelect ops && pre.length + (r1.length + 1) == ops.size && r1.length == r2.length && forkOk .any ops ds i j r1 r2 pre (Array.replicate ops.size false)

theorem wp_region_fork {id : Nat} {a : Act} {w : World} (R : World → World → Prop) (hrefl : ∀ w, R w w) (htrans : ∀ a b c, R a b → R b c → R a c) (ds : List Nat) (pre : List Nat) (i j : Nat) (r1 r2 : List (Nat × Nat)) (hm : P.follows .mixedOrders = true) (hok : forkStart ops ds pre i j r1 r2 = true)
    (hQ : ∀ d v c a w, Q (.panic c) (Act.put a d v) w → Q (.panic c) a w) (h : forkL P ops Q R ds ((2, i) :: r1) ((2, j) :: r2) pre a w.drew) : (Code.region id ops true).wp P Q a w := by
  simp only [forkStart, Bool.and_eq_true, beq_iff_eq] at hok
  obtain ⟨⟨⟨h1, h2⟩, h3⟩, h4⟩ := hok
  refine wp_region_any hm (wpAny_of_R (R := R) (ds := ds) _ _ _ _ ?_)
  rw [← h2]
  have := wpAnyR_of_fork (md := .any) hrefl htrans h1 hQ i j r1 r2 h3 pre _ a w.drew (fun j oj _ hl => by rw [Array.getD_eq_getD_getElem?, Array.getElem?_replicate] at hl; split at hl <;> simp at hl) h4 h
  rw [← h2] at this
  exact this
theorem fork_pure {l1 l2 : List (Nat × Nat)} {i : Nat} {rest : List Nat} {o : Oper} {v : Value} {a : Act} {w : World} (hi : ops[i]? = some o) (hw : Region.wanted o (yielded ops a.tmps) = true)
    (hy : ∀ w', R w w' → (execOp a.eval o).run P w' = .ok (.value v) w') (h : forkL P ops Q R ds l1 l2 rest (a.put o.dst v) w) : forkL P ops Q R ds l1 l2 (i :: rest) a w :=
  ⟨o, v, hi, .inl ⟨hw, hy⟩, h⟩
theorem fork_norm {l1 l2 : List (Nat × Nat)} {l : List Nat} {a a' : Act} {w : World} (ha : a = a') (h : forkL P ops Q R ds l1 l2 l a' w) : forkL P ops Q R ds l1 l2 l a w := by subst ha; exact h
theorem fork_both {l1 l2 : List (Nat × Nat)} {a : Act} {w : World} (h1 : mixL3 P ops Q R ds l1 a w) (h2 : mixL3 P ops Q R ds l2 a w) : forkL P ops Q R ds l1 l2 [] a w := ⟨h1, h2⟩
end
end Go.Proofs.YtiolfnnkkflaiaaDoor
