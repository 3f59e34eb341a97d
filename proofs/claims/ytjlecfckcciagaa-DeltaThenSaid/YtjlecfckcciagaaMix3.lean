/- As Mix, with operations that yield the same in every world (kind 0) besides those that only read (kind 1) and those that may do anything (kind 2). -/
import Derived.Test.YtjlecfckcciagaaMix
open Go.RowKit
namespace Go.Proofs.Ytjlecfckcciagaa
section
variable {P : Program} {ops : Array Oper} {Q : Exit → Act → World → Prop} {md : Region.Mode} {R : World → World → Prop} {ds : List Nat}

theorem wpAnyR_free (hrefl : ∀ w, R w w) {i : Nat} {oi : Oper} {v : Value} (hi : ops[i]? = some oi) (hsel : ∀ (j : Nat) (o : Oper) cs b, ops[j]? = some o → o.op ≠ .select cs b)
    (hQ : ∀ c a w, Q (.panic c) (a.put oi.dst v) w → Q (.panic c) a w) :
    ∀ (fuel : Nat) (listed : Array Bool) (a : Act) (w : World),
      (∀ j oj, ops[j]? = some oj → j ≠ i → listed.getD j true = false → (∀ e ∈ oj.after, Region.binds md e = true → e.on ≠ i) → oi.apart ops oj = true) →
      i ∈ Region.ready md ops listed → YieldsIf P ops (fun _ => True) oi v a →
      wpAnyR P md ops Q R ds fuel (listed.setIfInBounds i true) (a.put oi.dst v) w → wpAnyR P md ops Q R ds (fuel + 1) listed a w := by
  intro fuel
  induction fuel with
  | zero =>
    intro listed a w _ hr hy H
    refine ⟨fun h => (by rw [h] at hr; cases hr), fun j hj => ?_⟩
    by_cases hji : j = i
    · subst hji; exact hy.wpOp hi trivial ⟨fun _ => hrefl w, H⟩
    · have := ready_mono hj hji
      rw [H.1] at this
      cases this
  | succ fuel ih =>
    intro listed a w hfree hr hy H
    refine ⟨fun h => (by rw [h] at hr; cases hr), fun j hj => ?_⟩
    by_cases hji : j = i
    · subst hji; exact hy.wpOp hi trivial ⟨fun _ => hrefl w, H⟩
    · have h1 := H.2 j (ready_mono hj hji)
      obtain ⟨hjun, oj, hoj, hall⟩ := mem_ready.1 hj
      have hnot : ∀ e ∈ oj.after, Region.binds md e = true → e.on ≠ i := fun e he hb heq => by
        have h1 := hall e he hb
        have h0 := (mem_ready.1 hr).1
        rw [heq] at h1
        rcases Nat.lt_or_ge i listed.size with h' | h'
        · simp [h'] at h0 h1; rw [h0] at h1; cases h1
        · simp [Array.getElem?_eq_none h'] at h1
      have h2 := wpOp_putIf hoj (hfree j oj hoj hji hjun hnot) (fun cs b => hsel i oi cs b hi) (fun cs b => hsel j oj cs b hoj) hQ hy h1
      have hfree' : ∀ k ok, ops[k]? = some ok → k ≠ i → (listed.setIfInBounds j true).getD k true = false →
          (∀ e ∈ ok.after, Region.binds md e = true → e.on ≠ i) → oi.apart ops ok = true := fun k ok hk hki hun hno => by
        refine hfree k ok hk hki ?_ hno
        by_cases hjk : j = k
        · subst hjk; exact hjun
        · rw [getD_set_ne true hjk] at hun; exact hun
      refine wpOp_mono (fun a' w' h3 => ⟨h3.2.1, ih (listed.setIfInBounds j true) a' w' hfree' (ready_mono hr (Ne.symm hji)) h3.1 ?_⟩) h2
      rw [Array.setIfInBounds_comm _ _ hji]
      exact h3.2.2

def mixL3 (P : Program) (ops : Array Oper) (Q : Exit → Act → World → Prop) (R : World → World → Prop) (ds : List Nat) : List (Nat × Nat) → Act → World → Prop
  | [], a, w => Q .normal a w
  | (0, i) :: rest, a, w => ∃ o v, ops[i]? = some o ∧ YieldsIf P ops (fun _ => True) o v a ∧ mixL3 P ops Q R ds rest (a.put o.dst v) w
  | (1, i) :: rest, a, w => ∃ o v, ops[i]? = some o ∧ YieldsIf P ops (R w) o v a ∧ mixL3 P ops Q R ds rest (a.put o.dst v) w
  | (_, i) :: rest, a, w => wpOp P ops Q i (fun a' w' => (i ∉ ds → R w w') ∧ mixL3 P ops Q R ds rest a' w') a w
def mixOk3 (md : Region.Mode) (ops : Array Oper) (ds : List Nat) : List (Nat × Nat) → Array Bool → Bool
  | [], listed => (Region.ready md ops listed).isEmpty
  | (0, i) :: rest, listed => Region.free md ops listed i && (Region.ready md ops listed).contains i && mixOk3 md ops ds rest (listed.setIfInBounds i true)
  | (1, i) :: rest, listed => Region.free md ops listed i && (Region.ready md ops listed).contains i && (ds.all fun d => listed.getD d true || waitsB md ops i ops.size d) && mixOk3 md ops ds rest (listed.setIfInBounds i true)
  | (_, i) :: rest, listed => (Region.ready md ops listed == [i]) && mixOk3 md ops ds rest (listed.setIfInBounds i true)

theorem wpAnyR_of_mix3 (hrefl : ∀ w, R w w) (htrans : ∀ a b c, R a b → R b c → R a c) (hs : Region.noSelect ops = true) (hQ : ∀ d v c a w, Q (.panic c) (Act.put a d v) w → Q (.panic c) a w) :
    ∀ (l : List (Nat × Nat)) (listed : Array Bool) (a : Act) (w : World), Closed md ops listed → mixOk3 md ops ds l listed = true → mixL3 P ops Q R ds l a w → wpAnyR P md ops Q R ds l.length listed a w
  | [], listed, a, w, _, hok, h => ⟨by simpa [mixOk3] using hok, h⟩
  | (0, i) :: rest, listed, a, w, hc, hok, h => by
    simp only [mixOk3, Bool.and_eq_true] at hok
    obtain ⟨⟨h1, h2⟩, h3⟩ := hok
    obtain ⟨o, v, hi, hy, h4⟩ := h
    have h6 : i ∈ Region.ready md ops listed := by simpa using h2
    exact wpAnyR_free hrefl hi (Region.noSelect_spec hs) (fun c a w => hQ _ _ c a w) rest.length listed a w (Region.free_spec hi h1) h6 hy (wpAnyR_of_mix3 hrefl htrans hs hQ rest _ _ _ (hc.set h6) h3 h4)
  | (1, i) :: rest, listed, a, w, hc, hok, h => by
    simp only [mixOk3, Bool.and_eq_true] at hok
    obtain ⟨⟨⟨h1, h2⟩, h5⟩, h3⟩ := hok
    obtain ⟨o, v, hi, hy, h4⟩ := h
    have h6 : i ∈ Region.ready md ops listed := by simpa using h2
    exact wpAnyR_first hrefl htrans hi (Region.noSelect_spec hs) (fun c a w => hQ _ _ c a w) ops.size rest.length listed a w (Region.free_spec hi h1) hc
      (fun d hm hun => by have := List.all_eq_true.1 h5 d hm; rw [hun] at this; simpa using this) h6 hy (wpAnyR_of_mix3 hrefl htrans hs hQ rest _ _ _ (hc.set h6) h3 h4)
  | (m + 2, i) :: rest, listed, a, w, hc, hok, h => by
    simp only [mixOk3, Bool.and_eq_true, beq_iff_eq] at hok
    obtain ⟨h1, h3⟩ := hok
    refine ⟨fun h0 => absurd (h1 ▸ h0) (by simp), fun j hj => ?_⟩
    rw [h1, List.mem_singleton] at hj
    subst hj
    exact wpOp_mono (fun a' w' h5 => ⟨h5.1, wpAnyR_of_mix3 hrefl htrans hs hQ rest _ _ _ (hc.set (by rw [h1]; exact List.mem_singleton.2 rfl)) h3 h5.2⟩) h

def mixStart3 (ops : Array Oper) (ds : List Nat) (l : List (Nat × Nat)) : Bool := Region.noSelect ops && l.length == ops.size && mixOk3 .any ops ds l (Array.replicate ops.size false)
theorem wp_region_mix3 {id : Nat} {a : Act} {w : World} (R : World → World → Prop) (hrefl : ∀ w, R w w) (htrans : ∀ a b c, R a b → R b c → R a c) (ds : List Nat) (l : List (Nat × Nat)) (hm : P.follows .mixedOrders = true) (hok : mixStart3 ops ds l = true)
    (hQ : ∀ d v c a w, Q (.panic c) (Act.put a d v) w → Q (.panic c) a w) (h : mixL3 P ops Q R ds l a w.drew) : (Code.region id ops true).wp P Q a w := by
  simp only [mixStart3, Bool.and_eq_true, beq_iff_eq] at hok
  obtain ⟨⟨h1, h2⟩, h3⟩ := hok
  refine wp_region_any hm (wpAny_of_R (R := R) (ds := ds) _ _ _ _ ?_)
  rw [← h2]
  have := wpAnyR_of_mix3 (md := .any) hrefl htrans h1 hQ l _ a w.drew (fun j oj _ hl => by rw [Array.getD_eq_getD_getElem?, Array.getElem?_replicate] at hl; split at hl <;> simp at hl) h3 h
  rw [← h2] at this
  exact this

theorem mix3_free {i : Nat} {rest : List (Nat × Nat)} {o : Oper} {v : Value} {a : Act} {w : World} (hi : ops[i]? = some o) (hw : Region.wanted o (yielded ops a.tmps) = true)
    (hy : ∀ w', (execOp a.eval o).run P w' = .ok (.value v) w') (h : mixL3 P ops Q R ds rest (a.put o.dst v) w) : mixL3 P ops Q R ds ((0, i) :: rest) a w :=
  ⟨o, v, hi, .inl ⟨hw, fun w' _ => hy w'⟩, h⟩
theorem mix3_freeOff {i : Nat} {rest : List (Nat × Nat)} {o : Oper} {a : Act} {w : World} (hi : ops[i]? = some o) (hw : Region.wanted o (yielded ops a.tmps) = false)
    (h : mixL3 P ops Q R ds rest (a.put o.dst undef) w) : mixL3 P ops Q R ds ((0, i) :: rest) a w :=
  ⟨o, undef, hi, .inr ⟨hw, rfl⟩, h⟩
theorem mix3_pure {i : Nat} {rest : List (Nat × Nat)} {o : Oper} {v : Value} {a : Act} {w : World} (hi : ops[i]? = some o) (hw : Region.wanted o (yielded ops a.tmps) = true)
    (hy : ∀ w', R w w' → (execOp a.eval o).run P w' = .ok (.value v) w') (h : mixL3 P ops Q R ds rest (a.put o.dst v) w) : mixL3 P ops Q R ds ((1, i) :: rest) a w :=
  ⟨o, v, hi, .inl ⟨hw, hy⟩, h⟩
theorem mix3_off {i : Nat} {rest : List (Nat × Nat)} {o : Oper} {a : Act} {w : World} (hi : ops[i]? = some o) (hw : Region.wanted o (yielded ops a.tmps) = false)
    (h : mixL3 P ops Q R ds rest (a.put o.dst undef) w) : mixL3 P ops Q R ds ((1, i) :: rest) a w :=
  ⟨o, undef, hi, .inr ⟨hw, rfl⟩, h⟩
theorem mix3_done {a : Act} {w : World} (h : Q .normal a w) : mixL3 P ops Q R ds [] a w := h
theorem mix3_norm {l : List (Nat × Nat)} {a a' : Act} {w : World} (ha : a = a') (h : mixL3 P ops Q R ds l a' w) : mixL3 P ops Q R ds l a w := by subst ha; exact h
def mixQ3 (P : Program) (ops : Array Oper) (Q : Exit → Act → World → Prop) (R : World → World → Prop) (ds : List Nat) (i : Nat) (w : World) (rest : List (Nat × Nat)) : Exit → Act → World → Prop
  | .normal, a', w' => (i ∉ ds → R w w') ∧ mixL3 P ops Q R ds rest a' w'
  | e, a', w' => Q e a' w'
theorem mixQ3_normal {i : Nat} {a a' : Act} {w w' : World} {rest : List (Nat × Nat)} (h1 : R w w') (ha : a = a') (h2 : mixL3 P ops Q R ds rest a' w') : mixQ3 P ops Q R ds i w rest .normal a w' := by subst ha; exact ⟨fun _ => h1, h2⟩
theorem mixQ3_last {i : Nat} {a a' : Act} {w w' : World} {rest : List (Nat × Nat)} (h1 : i ∈ ds) (ha : a = a') (h2 : mixL3 P ops Q R ds rest a' w') : mixQ3 P ops Q R ds i w rest .normal a w' := by subst ha; exact ⟨fun h => absurd h1 h, h2⟩
theorem letsOut_of_mix3 {i : Nat} {w : World} {rest : List (Nat × Nat)} (h : LetsOut (mixQ3 P ops Q R ds i w rest)) : LetsOut Q := by
  obtain ⟨a, w', h⟩ := h
  exact ⟨a, w', h⟩
theorem mix3_skip (hrefl : ∀ w, R w w) {i : Nat} {rest : List (Nat × Nat)} {o : Oper} {a : Act} {w : World} (hi : ops[i]? = some o) (hw : Region.wanted o (yielded ops a.tmps) = false)
    (h : mixL3 P ops Q R ds rest (a.put o.dst undef) w) : mixL3 P ops Q R ds ((2, i) :: rest) a w := by
  unfold mixL3 wpOp
  simp only [hi, hw, Bool.false_eq_true, if_false]
  exact ⟨fun _ => hrefl w, h⟩
theorem mix3_eff {i : Nat} {rest : List (Nat × Nat)} {o : Oper} {a : Act} {w : World} (hi : ops[i]? = some o) (h : wpList P ops (mixQ3 P ops Q R ds i w rest) [o] a w) : mixL3 P ops Q R ds ((2, i) :: rest) a w := by
  show wpOp P ops Q i (fun a' w' => (i ∉ ds → R w w') ∧ mixL3 P ops Q R ds rest a' w') a w
  unfold wpOp
  simp only [hi]
  unfold wpList at h
  split at h
  · rename_i hw
    simp only [hw, if_true]
    rcases h with h | ⟨h1, h2⟩
    · refine .inl ?_
      unfold Oper.wp at *
      generalize (execOp a.eval o).run P w = r at *
      cases r with
      | ok n w' =>
        cases n <;> simp only [Oper.upon] at h ⊢
        case value u => exact h
        case skip => exact h
        case defer d => exact h
        case enter f args =>
          refine Calls.mono h fun e w'' he => ?_
          cases e with
          | returned u => exact he
          | panicked c => exact he
          | outgrown => exact letsOut_of_mix3 he
        case row row args => exact Rows.mono h fun u w'' he => he
      | halt x w' =>
        cases x <;> simp only [Oper.upon] at h ⊢
        case panic u => exact h
    · exact .inr ⟨h1, letsOut_of_mix3 h2⟩
  · rename_i hw
    simp only [hw]
    exact h
end
end Go.Proofs.Ytjlecfckcciagaa
