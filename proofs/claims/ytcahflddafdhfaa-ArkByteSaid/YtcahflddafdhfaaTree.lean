/- As Mix3, with forks: where two that may do anything are ready at once, each order is walked. And: the rest of a walk cut off behind a region. -/
import Derived.Test.YtcahflddafdhfaaMix3
open Go.RowKit
namespace Go.Proofs.Ytcahflddafdhfaa

inductive MTree where
  | done
  | step (k i : Nat) (t : MTree)
  | fork (i j : Nat) (t1 t2 : MTree)

section
variable {P : Program} {ops : Array Oper} {Q : Exit → Act → World → Prop} {md : Region.Mode} {R : World → World → Prop} {ds : List Nat}

def mixT (P : Program) (ops : Array Oper) (Q : Exit → Act → World → Prop) (R : World → World → Prop) (ds : List Nat) : MTree → Act → World → Prop
  | .done, a, w => Q .normal a w
  | .step 0 i rest, a, w => ∃ o v, ops[i]? = some o ∧ YieldsIf P ops (fun _ => True) o v a ∧ mixT P ops Q R ds rest (a.put o.dst v) w
  | .step 1 i rest, a, w => ∃ o v, ops[i]? = some o ∧ YieldsIf P ops (R w) o v a ∧ mixT P ops Q R ds rest (a.put o.dst v) w
  | .step _ i rest, a, w => wpOp P ops Q i (fun a' w' => (i ∉ ds → R w w') ∧ mixT P ops Q R ds rest a' w') a w
  | .fork i j t1 t2, a, w => wpOp P ops Q i (fun a' w' => (i ∉ ds → R w w') ∧ mixT P ops Q R ds t1 a' w') a w ∧ wpOp P ops Q j (fun a' w' => (j ∉ ds → R w w') ∧ mixT P ops Q R ds t2 a' w') a w
def mixOkT (md : Region.Mode) (ops : Array Oper) (ds : List Nat) : MTree → Nat → Array Bool → Bool
  | .done, n, listed => n == 0 && (Region.ready md ops listed).isEmpty
  | .step _ _ _, 0, _ => false
  | .fork _ _ _ _, 0, _ => false
  | .step 0 i rest, n + 1, listed => Region.free md ops listed i && (Region.ready md ops listed).contains i && mixOkT md ops ds rest n (listed.setIfInBounds i true)
  | .step 1 i rest, n + 1, listed => Region.free md ops listed i && (Region.ready md ops listed).contains i && (ds.all fun d => listed.getD d true || waitsB md ops i ops.size d) && mixOkT md ops ds rest n (listed.setIfInBounds i true)
  | .step _ i rest, n + 1, listed => (Region.ready md ops listed == [i]) && mixOkT md ops ds rest n (listed.setIfInBounds i true)
  | .fork i j t1 t2, n + 1, listed => (Region.ready md ops listed == [i, j]) && mixOkT md ops ds t1 n (listed.setIfInBounds i true) && mixOkT md ops ds t2 n (listed.setIfInBounds j true)

theorem wpAnyR_of_tree (hrefl : ∀ w, R w w) (htrans : ∀ a b c, R a b → R b c → R a c) (hs : Region.noSelect ops = true) (hQ : ∀ d v c a w, Q (.panic c) (Act.put a d v) w → Q (.panic c) a w) :
    ∀ (t : MTree) (n : Nat) (listed : Array Bool) (a : Act) (w : World), Closed md ops listed → mixOkT md ops ds t n listed = true → mixT P ops Q R ds t a w → wpAnyR P md ops Q R ds n listed a w
  | .done, n, listed, a, w, _, hok, h => by
    simp only [mixOkT, Bool.and_eq_true, beq_iff_eq] at hok
    obtain ⟨rfl, h1⟩ := hok
    exact ⟨by simpa using h1, h⟩
  | .step _ _ _, 0, _, _, _, _, hok, _ => by simp [mixOkT] at hok
  | .fork _ _ _ _, 0, _, _, _, _, hok, _ => by simp [mixOkT] at hok
  | .step 0 i rest, n + 1, listed, a, w, hc, hok, h => by
    simp only [mixOkT, Bool.and_eq_true] at hok
    obtain ⟨⟨h1, h2⟩, h3⟩ := hok
    obtain ⟨o, v, hi, hy, h4⟩ := h
    have h6 : i ∈ Region.ready md ops listed := by simpa using h2
    exact wpAnyR_free hrefl hi (Region.noSelect_spec hs) (fun c a w => hQ _ _ c a w) n listed a w (Region.free_spec hi h1) h6 hy (wpAnyR_of_tree hrefl htrans hs hQ rest _ _ _ _ (hc.set h6) h3 h4)
  | .step 1 i rest, n + 1, listed, a, w, hc, hok, h => by
    simp only [mixOkT, Bool.and_eq_true] at hok
    obtain ⟨⟨⟨h1, h2⟩, h5⟩, h3⟩ := hok
    obtain ⟨o, v, hi, hy, h4⟩ := h
    have h6 : i ∈ Region.ready md ops listed := by simpa using h2
    exact wpAnyR_first hrefl htrans hi (Region.noSelect_spec hs) (fun c a w => hQ _ _ c a w) ops.size n listed a w (Region.free_spec hi h1) hc
      (fun d hm hun => by have := List.all_eq_true.1 h5 d hm; rw [hun] at this; simpa using this) h6 hy (wpAnyR_of_tree hrefl htrans hs hQ rest _ _ _ _ (hc.set h6) h3 h4)
  | .step (m + 2) i rest, n + 1, listed, a, w, hc, hok, h => by
    simp only [mixOkT, Bool.and_eq_true, beq_iff_eq] at hok
    obtain ⟨h1, h3⟩ := hok
    refine ⟨fun h0 => absurd (h1 ▸ h0) (by simp), fun j hj => ?_⟩
    rw [h1, List.mem_singleton] at hj
    subst hj
    exact wpOp_mono (fun a' w' h5 => ⟨h5.1, wpAnyR_of_tree hrefl htrans hs hQ rest _ _ _ _ (hc.set (by rw [h1]; exact List.mem_singleton.2 rfl)) h3 h5.2⟩) h
  | .fork i j t1 t2, n + 1, listed, a, w, hc, hok, h => by
    simp only [mixOkT, Bool.and_eq_true, beq_iff_eq] at hok
    obtain ⟨⟨h1, h2⟩, h3⟩ := hok
    refine ⟨fun h0 => absurd (h1 ▸ h0) (by simp), fun k hk => ?_⟩
    have hk' := hk
    rw [h1] at hk
    simp only [List.mem_cons, List.mem_nil_iff, or_false] at hk
    rcases hk with rfl | rfl
    · exact wpOp_mono (fun a' w' h5 => ⟨h5.1, wpAnyR_of_tree hrefl htrans hs hQ t1 _ _ _ _ (hc.set hk') h2 h5.2⟩) h.1
    · exact wpOp_mono (fun a' w' h5 => ⟨h5.1, wpAnyR_of_tree hrefl htrans hs hQ t2 _ _ _ _ (hc.set hk') h3 h5.2⟩) h.2

def treeStart (ops : Array Oper) (ds : List Nat) (t : MTree) : Bool := Region.noSelect ops && mixOkT .any ops ds t ops.size (Array.replicate ops.size false)
theorem wp_region_tree {id : Nat} {a : Act} {w : World} (R : World → World → Prop) (hrefl : ∀ w, R w w) (htrans : ∀ a b c, R a b → R b c → R a c) (ds : List Nat) (t : MTree) (hm : P.follows .mixedOrders = true) (hok : treeStart ops ds t = true)
    (hQ : ∀ d v c a w, Q (.panic c) (Act.put a d v) w → Q (.panic c) a w) (h : mixT P ops Q R ds t a w.drew) : (Code.region id ops true).wp P Q a w := by
  simp only [treeStart, Bool.and_eq_true] at hok
  obtain ⟨h1, h3⟩ := hok
  refine wp_region_any hm (wpAny_of_R (R := R) (ds := ds) _ _ _ _ ?_)
  exact wpAnyR_of_tree (md := .any) hrefl htrans h1 hQ t _ _ a w.drew (fun j oj _ hl => by rw [Array.getD_eq_getD_getElem?, Array.getElem?_replicate] at hl; split at hl <;> simp at hl) h3 h

theorem tree_free {i : Nat} {rest : MTree} {o : Oper} {v : Value} {a : Act} {w : World} (hi : ops[i]? = some o) (hw : Region.wanted o (yielded ops a.tmps) = true)
    (hy : ∀ w', (execOp a.eval o).run P w' = .ok (.value v) w') (h : mixT P ops Q R ds rest (a.put o.dst v) w) : mixT P ops Q R ds (.step 0 i rest) a w :=
  ⟨o, v, hi, .inl ⟨hw, fun w' _ => hy w'⟩, h⟩
theorem tree_freeOff {i : Nat} {rest : MTree} {o : Oper} {a : Act} {w : World} (hi : ops[i]? = some o) (hw : Region.wanted o (yielded ops a.tmps) = false)
    (h : mixT P ops Q R ds rest (a.put o.dst undef) w) : mixT P ops Q R ds (.step 0 i rest) a w :=
  ⟨o, undef, hi, .inr ⟨hw, rfl⟩, h⟩
theorem tree_pure {i : Nat} {rest : MTree} {o : Oper} {v : Value} {a : Act} {w : World} (hi : ops[i]? = some o) (hw : Region.wanted o (yielded ops a.tmps) = true)
    (hy : ∀ w', R w w' → (execOp a.eval o).run P w' = .ok (.value v) w') (h : mixT P ops Q R ds rest (a.put o.dst v) w) : mixT P ops Q R ds (.step 1 i rest) a w :=
  ⟨o, v, hi, .inl ⟨hw, hy⟩, h⟩
theorem tree_off {i : Nat} {rest : MTree} {o : Oper} {a : Act} {w : World} (hi : ops[i]? = some o) (hw : Region.wanted o (yielded ops a.tmps) = false)
    (h : mixT P ops Q R ds rest (a.put o.dst undef) w) : mixT P ops Q R ds (.step 1 i rest) a w :=
  ⟨o, undef, hi, .inr ⟨hw, rfl⟩, h⟩
theorem tree_done {a : Act} {w : World} (h : Q .normal a w) : mixT P ops Q R ds .done a w := h
theorem tree_norm {l : MTree} {a a' : Act} {w : World} (ha : a = a') (h : mixT P ops Q R ds l a' w) : mixT P ops Q R ds l a w := by subst ha; exact h
def treeQ (P : Program) (ops : Array Oper) (Q : Exit → Act → World → Prop) (R : World → World → Prop) (ds : List Nat) (i : Nat) (w : World) (rest : MTree) : Exit → Act → World → Prop
  | .normal, a', w' => (i ∉ ds → R w w') ∧ mixT P ops Q R ds rest a' w'
  | e, a', w' => Q e a' w'
theorem treeQ_normal {i : Nat} {a a' : Act} {w w' : World} {rest : MTree} (h1 : R w w') (ha : a = a') (h2 : mixT P ops Q R ds rest a' w') : treeQ P ops Q R ds i w rest .normal a w' := by subst ha; exact ⟨fun _ => h1, h2⟩
theorem treeQ_last {i : Nat} {a a' : Act} {w w' : World} {rest : MTree} (h1 : i ∈ ds) (ha : a = a') (h2 : mixT P ops Q R ds rest a' w') : treeQ P ops Q R ds i w rest .normal a w' := by subst ha; exact ⟨fun h => absurd h1 h, h2⟩
theorem letsOut_of_tree {i : Nat} {w : World} {rest : MTree} (h : LetsOut (treeQ P ops Q R ds i w rest)) : LetsOut Q := by
  obtain ⟨a, w', h⟩ := h
  exact ⟨a, w', h⟩
theorem tree_op {i : Nat} {rest : MTree} {o : Oper} {a : Act} {w : World} (hi : ops[i]? = some o) (h : wpList P ops (treeQ P ops Q R ds i w rest) [o] a w) :
    wpOp P ops Q i (fun a' w' => (i ∉ ds → R w w') ∧ mixT P ops Q R ds rest a' w') a w := by
  unfold wpOp
  simp only [hi]
  unfold wpList at h
  split at h
  · rename_i hw
    simp only [hw, if_true]
    rcases h with h | ⟨h1, h2⟩
    · refine .inl ?_
      unfold Oper.wp at *
      generalize (execOp a.eval o).run P w = r at *
      cases r with
      | ok n w' =>
        cases n <;> simp only [Oper.upon] at h ⊢
        case value u => exact h
        case skip => exact h
        case defer d => exact h
        case enter f args =>
          refine Calls.mono h fun e w'' he => ?_
          cases e with
          | returned u => exact he
          | panicked c => exact he
          | outgrown => exact letsOut_of_tree he
        case row row args => exact Rows.mono h fun u w'' he => he
      | halt x w' =>
        cases x <;> simp only [Oper.upon] at h ⊢
        case panic u => exact h
    · exact .inr ⟨h1, letsOut_of_tree h2⟩
  · rename_i hw
    simp only [hw]
    exact h
theorem tree_eff {i : Nat} {rest : MTree} {o : Oper} {a : Act} {w : World} (hi : ops[i]? = some o) (h : wpList P ops (treeQ P ops Q R ds i w rest) [o] a w) : mixT P ops Q R ds (.step 2 i rest) a w := tree_op hi h
theorem tree_fork {i j : Nat} {t1 t2 : MTree} {o p : Oper} {a : Act} {w : World} (hi : ops[i]? = some o) (hj : ops[j]? = some p) (h1 : wpList P ops (treeQ P ops Q R ds i w t1) [o] a w) (h2 : wpList P ops (treeQ P ops Q R ds j w t2) [p] a w) : mixT P ops Q R ds (.fork i j t1 t2) a w := ⟨tree_op hi h1, tree_op hj h2⟩
end

/-- Some temporaries written, one after another. -/
def puts (a : Act) : List (Option Nat × Value) → Act
  | [] => a
  | p :: l => puts (a.put p.1 p.2) l
/-- A region (any code) by what it leaves, and the rest from there. -/
theorem wp_cut {P : Program} {c : Code} {Q : Exit → Act → World → Prop} {a : Act} {w : World} (U : Nat → List (Option Nat × Value)) (J : Nat → World → Prop)
    (h1 : c.wp P (fun e a' w' => e = .normal ∧ ∃ f, a' = puts a (U f) ∧ J f w') a w) (h2 : ∀ f w', J f w' → Q .normal (puts a (U f)) w') : c.wp P Q a w := by
  refine Code.wp_mono ?_ h1
  rintro e a' w' ⟨rfl, f, rfl, hj⟩
  exact h2 f w' hj
end Go.Proofs.Ytcahflddafdhfaa
