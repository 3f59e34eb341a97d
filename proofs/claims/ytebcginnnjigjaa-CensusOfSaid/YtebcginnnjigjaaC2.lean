import Derived.OrdersHeld
import Derived.Tactics2
import Derived.KernelRfl
import Derived.Below
import Derived.Deep.DrawnRows
section
/- A region that draws its order, walked once: what only reads is taken first in every world that keeps what is held (R), what writes or calls comes up alone; an order is given and checked. -/
open Go.RowKit
namespace Go.Proofs.Ytebcginnnjigjaa

section
variable {P : Program} {ops : Array Oper} {Q : Exit → Act → World → Prop} {md : Region.Mode} {R : World → World → Prop} {ds : List Nat}

/-- Operation d waits for operation i, by a chain of at most 'fuel' edges. -/
def waitsB (md : Region.Mode) (ops : Array Oper) (i : Nat) : Nat → Nat → Bool
  | 0, _ => false
  | fuel + 1, d => match ops[d]? with
    | some o => o.after.any fun e => Region.binds md e && (e.on == i || waitsB md ops i fuel e.on)
    | none => false
/-- What is listed is closed under the edges. -/
def Closed (md : Region.Mode) (ops : Array Oper) (listed : Array Bool) : Prop :=
  ∀ j oj, ops[j]? = some oj → listed.getD j false = true → ∀ e ∈ oj.after, Region.binds md e = true → listed.getD e.on false = true
theorem Closed.set {listed : Array Bool} {i : Nat} (h : Closed md ops listed) (hi : i ∈ Region.ready md ops listed) : Closed md ops (listed.setIfInBounds i true) := by
  obtain ⟨_, oi, hoi, hall⟩ := mem_ready.1 hi
  intro j oj hj hl e he hb
  by_cases hij : i = j
  · subst hij
    have : oj = oi := Option.some.inj (hj.symm.trans hoi)
    subst this
    exact getD_set_true (hall e he hb)
  · rw [getD_set_ne false hij] at hl
    exact getD_set_true (h j oj hj hl e he hb)
theorem waits_listed {listed : Array Bool} {i : Nat} (hc : Closed md ops listed) : ∀ (fuel d : Nat), waitsB md ops i fuel d = true → listed.getD d false = true → listed.getD i false = true
  | 0, _, h, _ => by simp [waitsB] at h
  | fuel + 1, d, h, hl => by
    unfold waitsB at h
    cases ho : ops[d]? with
    | none => rw [ho] at h; simp at h
    | some o =>
      rw [ho] at h
      obtain ⟨e, he, h1⟩ := Array.any_eq_true'.1 h
      simp only [Bool.and_eq_true, Bool.or_eq_true, beq_iff_eq] at h1
      have hle := hc d o ho hl e he h1.1
      rcases h1.2 with h2 | h2
      · rw [← h2]; exact hle
      · exact waits_listed hc fuel e.on h2 hle
/-- What waits for i cannot come up before i is listed. -/
theorem waits_not_ready {listed : Array Bool} {i d fuel : Nat} (hc : Closed md ops listed) (hr : waitsB md ops i fuel d = true) (hun : listed.getD i true = false) : d ∉ Region.ready md ops listed := by
  intro hd
  obtain ⟨_, o, ho, hall⟩ := mem_ready.1 hd
  have hi : listed.getD i false = true := by
    cases fuel with
    | zero => simp [waitsB] at hr
    | succ n =>
      unfold waitsB at hr
      rw [ho] at hr
      obtain ⟨e, he, h1⟩ := Array.any_eq_true'.1 hr
      simp only [Bool.and_eq_true, Bool.or_eq_true, beq_iff_eq] at h1
      have hle := hall e he h1.1
      rcases h1.2 with h2 | h2
      · rw [← h2]; exact hle
      · exact waits_listed hc n e.on h2 hle
  rcases Nat.lt_or_ge i listed.size with h' | h'
  · simp [h'] at hun hi
    rw [hun] at hi
    cases hi
  · simp [Array.getElem?_eq_none h'] at hun

/-- Whatever order is picked from here on, and R holds over every operation that is carried out. -/
def wpAnyR (P : Program) (md : Region.Mode) (ops : Array Oper) (Q : Exit → Act → World → Prop) (R : World → World → Prop) (ds : List Nat) : Nat → Array Bool → Act → World → Prop
  | 0, listed, a, w => Region.ready md ops listed = [] ∧ Q .normal a w
  | fuel + 1, listed, a, w =>
    (Region.ready md ops listed = [] → Q .normal a w) ∧
    ∀ i ∈ Region.ready md ops listed, wpOp P ops Q i (fun a' w' => (i ∉ ds → R w w') ∧ wpAnyR P md ops Q R ds fuel (listed.setIfInBounds i true) a' w') a w

theorem wpAny_of_R : ∀ (fuel : Nat) (listed : Array Bool) (a : Act) (w : World), wpAnyR P md ops Q R ds fuel listed a w → wpAny P md ops Q fuel listed a w
  | 0, _, _, _, h => h
  | fuel + 1, _, _, _, h => ⟨h.1, fun i hi => wpOp_mono (fun a' w' h' => wpAny_of_R fuel _ a' w' h'.2) (h.2 i hi)⟩

theorem yieldsIf_mono {S S' : World → Prop} {o : Oper} {v : Value} {a : Act} (hs : ∀ w, S' w → S w) (h : YieldsIf P ops S o v a) : YieldsIf P ops S' o v a := by
  rcases h with ⟨h1, h2⟩ | h
  · exact .inl ⟨h1, fun w hw => h2 w (hs w hw)⟩
  · exact .inr h

theorem wpAnyR_first (hrefl : ∀ w, R w w) (htrans : ∀ a b c, R a b → R b c → R a c) {i : Nat} {oi : Oper} {v : Value} (hi : ops[i]? = some oi) (hsel : ∀ (j : Nat) (o : Oper) cs b, ops[j]? = some o → o.op ≠ .select cs b)
    (hQ : ∀ c a w, Q (.panic c) (a.put oi.dst v) w → Q (.panic c) a w) (n : Nat) :
    ∀ (fuel : Nat) (listed : Array Bool) (a : Act) (w : World),
      (∀ j oj, ops[j]? = some oj → j ≠ i → listed.getD j true = false → (∀ e ∈ oj.after, Region.binds md e = true → e.on ≠ i) → oi.apart ops oj = true) →
      Closed md ops listed → (∀ d ∈ ds, listed.getD d true = false → waitsB md ops i n d = true) →
      i ∈ Region.ready md ops listed → YieldsIf P ops (R w) oi v a →
      wpAnyR P md ops Q R ds fuel (listed.setIfInBounds i true) (a.put oi.dst v) w → wpAnyR P md ops Q R ds (fuel + 1) listed a w := by
  intro fuel
  induction fuel with
  | zero =>
    intro listed a w _ _ _ hr hy H
    refine ⟨fun h => (by rw [h] at hr; cases hr), fun j hj => ?_⟩
    by_cases hji : j = i
    · subst hji; exact hy.wpOp hi (hrefl w) ⟨fun _ => hrefl w, H⟩
    · have := ready_mono hj hji
      rw [H.1] at this
      cases this
  | succ fuel ih =>
    intro listed a w hfree hc hd hr hy H
    refine ⟨fun h => (by rw [h] at hr; cases hr), fun j hj => ?_⟩
    by_cases hji : j = i
    · subst hji; exact hy.wpOp hi (hrefl w) ⟨fun _ => hrefl w, H⟩
    · have h1 := H.2 j (ready_mono hj hji)
      obtain ⟨hjun, oj, hoj, hall⟩ := mem_ready.1 hj
      have hnot : ∀ e ∈ oj.after, Region.binds md e = true → e.on ≠ i := fun e he hb heq => by
        have h1 := hall e he hb
        have h0 := (mem_ready.1 hr).1
        rw [heq] at h1
        rcases Nat.lt_or_ge i listed.size with h' | h'
        · simp [h'] at h0 h1; rw [h0] at h1; cases h1
        · simp [Array.getElem?_eq_none h'] at h1
      have hjd : j ∉ ds := fun hm => waits_not_ready hc (hd j hm hjun) (mem_ready.1 hr).1 hj
      have h2 := wpOp_putIf hoj (hfree j oj hoj hji hjun hnot) (fun cs b => hsel i oi cs b hi) (fun cs b => hsel j oj cs b hoj) hQ hy h1
      have hfree' : ∀ k ok, ops[k]? = some ok → k ≠ i → (listed.setIfInBounds j true).getD k true = false →
          (∀ e ∈ ok.after, Region.binds md e = true → e.on ≠ i) → oi.apart ops ok = true := fun k ok hk hki hun hno => by
        refine hfree k ok hk hki ?_ hno
        by_cases hjk : j = k
        · subst hjk; exact hjun
        · rw [getD_set_ne true hjk] at hun; exact hun
      have hd' : ∀ d ∈ ds, (listed.setIfInBounds j true).getD d true = false → waitsB md ops i n d = true := fun d hm hun => by
        refine hd d hm ?_
        by_cases hjk : j = d
        · subst hjk; exact hjun
        · rw [getD_set_ne true hjk] at hun; exact hun
      refine wpOp_mono (fun a' w' h3 => ⟨h3.2.1, ih (listed.setIfInBounds j true) a' w' hfree' (hc.set hj) hd' (ready_mono hr (Ne.symm hji)) (yieldsIf_mono (fun w'' hw'' => htrans _ _ _ (h3.2.1 hjd) hw'') h3.1) ?_⟩) h2
      rw [Array.setIfInBounds_comm _ _ hji]
      exact h3.2.2

/-- The walk in one given order: (true, i): operation i only reads; (false, i): it may do anything. -/
def mixL (P : Program) (ops : Array Oper) (Q : Exit → Act → World → Prop) (R : World → World → Prop) (ds : List Nat) : List (Bool × Nat) → Act → World → Prop
  | [], a, w => Q .normal a w
  | (true, i) :: rest, a, w => ∃ o v, ops[i]? = some o ∧ YieldsIf P ops (R w) o v a ∧ mixL P ops Q R ds rest (a.put o.dst v) w
  | (false, i) :: rest, a, w => wpOp P ops Q i (fun a' w' => (i ∉ ds → R w w') ∧ mixL P ops Q R ds rest a' w') a w

/-- Is the order one that serves: what reads may be taken first, what writes comes up alone? -/
def mixOk (md : Region.Mode) (ops : Array Oper) (ds : List Nat) : List (Bool × Nat) → Array Bool → Bool
  | [], listed => (Region.ready md ops listed).isEmpty
  | (true, i) :: rest, listed => Region.free md ops listed i && (Region.ready md ops listed).contains i && (ds.all fun d => listed.getD d true || waitsB md ops i ops.size d) && mixOk md ops ds rest (listed.setIfInBounds i true)
  | (false, i) :: rest, listed => (Region.ready md ops listed == [i]) && mixOk md ops ds rest (listed.setIfInBounds i true)

theorem wpAnyR_of_mix (hrefl : ∀ w, R w w) (htrans : ∀ a b c, R a b → R b c → R a c) (hs : Region.noSelect ops = true) (hQ : ∀ d v c a w, Q (.panic c) (Act.put a d v) w → Q (.panic c) a w) :
    ∀ (l : List (Bool × Nat)) (listed : Array Bool) (a : Act) (w : World), Closed md ops listed → mixOk md ops ds l listed = true → mixL P ops Q R ds l a w → wpAnyR P md ops Q R ds l.length listed a w
  | [], listed, a, w, _, hok, h => ⟨by simpa [mixOk] using hok, h⟩
  | (true, i) :: rest, listed, a, w, hc, hok, h => by
    simp only [mixOk, Bool.and_eq_true] at hok
    obtain ⟨⟨⟨h1, h2⟩, h5⟩, h3⟩ := hok
    obtain ⟨o, v, hi, hy, h4⟩ := h
    have h6 : i ∈ Region.ready md ops listed := by simpa using h2
    exact wpAnyR_first hrefl htrans hi (Region.noSelect_spec hs) (fun c a w => hQ _ _ c a w) ops.size rest.length listed a w (Region.free_spec hi h1) hc
      (fun d hm hun => by have := List.all_eq_true.1 h5 d hm; rw [hun] at this; simpa using this) h6 hy (wpAnyR_of_mix hrefl htrans hs hQ rest _ _ _ (hc.set h6) h3 h4)
  | (false, i) :: rest, listed, a, w, hc, hok, h => by
    simp only [mixOk, Bool.and_eq_true, beq_iff_eq] at hok
    obtain ⟨h1, h3⟩ := hok
    refine ⟨fun h0 => absurd (h1 ▸ h0) (by simp), fun j hj => ?_⟩
    rw [h1, List.mem_singleton] at hj
    subst hj
    exact wpOp_mono (fun a' w' h5 => ⟨h5.1, wpAnyR_of_mix hrefl htrans hs hQ rest _ _ _ (hc.set (by rw [h1]; exact List.mem_singleton.2 rfl)) h3 h5.2⟩) h

def mixStart (ops : Array Oper) (ds : List Nat) (l : List (Bool × Nat)) : Bool := Region.noSelect ops && l.length == ops.size && mixOk .any ops ds l (Array.replicate ops.size false)

theorem wp_region_mix {id : Nat} {a : Act} {w : World} (R : World → World → Prop) (hrefl : ∀ w, R w w) (htrans : ∀ a b c, R a b → R b c → R a c) (ds : List Nat) (l : List (Bool × Nat)) (hm : P.follows .mixedOrders = true) (hok : mixStart ops ds l = true)
    (hQ : ∀ d v c a w, Q (.panic c) (Act.put a d v) w → Q (.panic c) a w) (h : mixL P ops Q R ds l a w.drew) : (Code.region id ops true).wp P Q a w := by
  simp only [mixStart, Bool.and_eq_true, beq_iff_eq] at hok
  obtain ⟨⟨h1, h2⟩, h3⟩ := hok
  refine wp_region_any hm (wpAny_of_R (R := R) (ds := ds) _ _ _ _ ?_)
  rw [← h2]
  have := wpAnyR_of_mix (md := .any) hrefl htrans h1 hQ l _ a w.drew (fun j oj _ hl => by rw [Array.getD_eq_getD_getElem?, Array.getElem?_replicate] at hl; split at hl <;> simp at hl) h3 h
  rw [← h2] at this
  exact this

/-! ### the steps -/
theorem mix_pure {i : Nat} {rest : List (Bool × Nat)} {o : Oper} {v : Value} {a : Act} {w : World} (hi : ops[i]? = some o) (hw : Region.wanted o (yielded ops a.tmps) = true)
    (hy : ∀ w', R w w' → (execOp a.eval o).run P w' = .ok (.value v) w') (h : mixL P ops Q R ds rest (a.put o.dst v) w) : mixL P ops Q R ds ((true, i) :: rest) a w :=
  ⟨o, v, hi, .inl ⟨hw, hy⟩, h⟩
theorem mix_off {i : Nat} {rest : List (Bool × Nat)} {o : Oper} {a : Act} {w : World} (hi : ops[i]? = some o) (hw : Region.wanted o (yielded ops a.tmps) = false)
    (h : mixL P ops Q R ds rest (a.put o.dst undef) w) : mixL P ops Q R ds ((true, i) :: rest) a w :=
  ⟨o, undef, hi, .inr ⟨hw, rfl⟩, h⟩
theorem mix_skip (hrefl : ∀ w, R w w) {i : Nat} {rest : List (Bool × Nat)} {o : Oper} {a : Act} {w : World} (hi : ops[i]? = some o) (hw : Region.wanted o (yielded ops a.tmps) = false)
    (h : mixL P ops Q R ds rest (a.put o.dst undef) w) : mixL P ops Q R ds ((false, i) :: rest) a w := by
  unfold mixL wpOp
  simp only [hi, hw, Bool.false_eq_true, if_false]
  exact ⟨fun _ => hrefl w, h⟩
theorem mix_done {a : Act} {w : World} (h : Q .normal a w) : mixL P ops Q R ds [] a w := h
theorem mix_norm {l : List (Bool × Nat)} {a a' : Act} {w : World} (ha : a = a') (h : mixL P ops Q R ds l a' w) : mixL P ops Q R ds l a w := by subst ha; exact h

/-- What is asked behind an operation that may write: R (but of those of ds), and the rest. -/
def mixQ (P : Program) (ops : Array Oper) (Q : Exit → Act → World → Prop) (R : World → World → Prop) (ds : List Nat) (i : Nat) (w : World) (rest : List (Bool × Nat)) : Exit → Act → World → Prop
  | .normal, a', w' => (i ∉ ds → R w w') ∧ mixL P ops Q R ds rest a' w'
  | e, a', w' => Q e a' w'

theorem mixQ_normal {i : Nat} {a a' : Act} {w w' : World} {rest : List (Bool × Nat)} (h1 : R w w') (ha : a = a') (h2 : mixL P ops Q R ds rest a' w') : mixQ P ops Q R ds i w rest .normal a w' := by subst ha; exact ⟨fun _ => h1, h2⟩
/-- Behind one of ds. -/
theorem mixQ_last {i : Nat} {a a' : Act} {w w' : World} {rest : List (Bool × Nat)} (h1 : i ∈ ds) (ha : a = a') (h2 : mixL P ops Q R ds rest a' w') : mixQ P ops Q R ds i w rest .normal a w' := by subst ha; exact ⟨fun h => absurd h1 h, h2⟩

theorem letsOut_of_mix {i : Nat} {w : World} {rest : List (Bool × Nat)} (h : LetsOut (mixQ P ops Q R ds i w rest)) : LetsOut Q := by
  obtain ⟨a, w', h⟩ := h
  exact ⟨a, w', h⟩

theorem mix_eff {i : Nat} {rest : List (Bool × Nat)} {o : Oper} {a : Act} {w : World} (hi : ops[i]? = some o) (h : wpList P ops (mixQ P ops Q R ds i w rest) [o] a w) : mixL P ops Q R ds ((false, i) :: rest) a w := by
  show wpOp P ops Q i (fun a' w' => (i ∉ ds → R w w') ∧ mixL P ops Q R ds rest a' w') a w
  unfold wpOp
  simp only [hi]
  unfold wpList at h
  split at h
  · rename_i hw
    simp only [hw, if_true]
    rcases h with h | ⟨h1, h2⟩
    · refine .inl ?_
      unfold Oper.wp at *
      generalize (execOp a.eval o).run P w = r at *
      cases r with
      | ok n w' =>
        cases n <;> simp only [Oper.upon] at h ⊢
        case value u => exact h
        case skip => exact h
        case defer d => exact h
        case enter f args =>
          refine Calls.mono h fun e w'' he => ?_
          cases e with
          | returned u => exact he
          | panicked c => exact he
          | outgrown => exact letsOut_of_mix he
        case row row args => exact Rows.mono h fun u w'' he => he
      | halt x w' =>
        cases x <;> simp only [Oper.upon] at h ⊢
        case panic u => exact h
    · exact .inr ⟨h1, letsOut_of_mix h2⟩
  · rename_i hw
    simp only [hw]
    exact h
end

/-- Every block that was there, but those of M, is as it was. -/
def KeepsBut (M : List Nat) (w w' : World) : Prop := w.heap.size ≤ w'.heap.size ∧ ∀ i, i < w.heap.size → i ∉ M → w'.heap[i]? = w.heap[i]?
theorem KeepsBut.refl (M : List Nat) (w : World) : KeepsBut M w w := ⟨Nat.le_refl _, fun _ _ _ => rfl⟩
theorem KeepsBut.trans (M : List Nat) (a b c : World) (h : KeepsBut M a b) (k : KeepsBut M b c) : KeepsBut M a c :=
  ⟨Nat.le_trans h.1 k.1, fun i hi hm => (k.2 i (Nat.lt_of_lt_of_le hi h.1) hm).trans (h.2 i hi hm)⟩
theorem KeepsBut.cell {M : List Nat} {w w' : World} (h : KeepsBut M w w') {p : Addr} {v : Value} (hp : w.cell? p = some v) (hm : p.block ∉ M) : w'.cell? p = some v :=
  (World.cell?_of_block (w := w) (h.2 p.block (World.block_lt_of_cell? _ _ hp) hm)).trans hp
theorem KeepsBut.of_below {M : List Nat} {w w' : World} (h : Below w.heap.size w w') : KeepsBut M w w' := ⟨h.size, fun i hi _ => h.block i hi⟩
end Go.Proofs.Ytebcginnnjigjaa

end
section
/- As Mix, with operations that yield the same in every world (kind 0) besides those that only read (kind 1) and those that may do anything (kind 2). -/
open Go.RowKit
namespace Go.Proofs.Ytebcginnnjigjaa
section
variable {P : Program} {ops : Array Oper} {Q : Exit → Act → World → Prop} {md : Region.Mode} {R : World → World → Prop} {ds : List Nat}

theorem wpAnyR_free (hrefl : ∀ w, R w w) {i : Nat} {oi : Oper} {v : Value} (hi : ops[i]? = some oi) (hsel : ∀ (j : Nat) (o : Oper) cs b, ops[j]? = some o → o.op ≠ .select cs b)
    (hQ : ∀ c a w, Q (.panic c) (a.put oi.dst v) w → Q (.panic c) a w) :
    ∀ (fuel : Nat) (listed : Array Bool) (a : Act) (w : World),
      (∀ j oj, ops[j]? = some oj → j ≠ i → listed.getD j true = false → (∀ e ∈ oj.after, Region.binds md e = true → e.on ≠ i) → oi.apart ops oj = true) →
      i ∈ Region.ready md ops listed → YieldsIf P ops (fun _ => True) oi v a →
      wpAnyR P md ops Q R ds fuel (listed.setIfInBounds i true) (a.put oi.dst v) w → wpAnyR P md ops Q R ds (fuel + 1) listed a w := by
  intro fuel
  induction fuel with
  | zero =>
    intro listed a w _ hr hy H
    refine ⟨fun h => (by rw [h] at hr; cases hr), fun j hj => ?_⟩
    by_cases hji : j = i
    · subst hji; exact hy.wpOp hi trivial ⟨fun _ => hrefl w, H⟩
    · have := ready_mono hj hji
      rw [H.1] at this
      cases this
  | succ fuel ih =>
    intro listed a w hfree hr hy H
    refine ⟨fun h => (by rw [h] at hr; cases hr), fun j hj => ?_⟩
    by_cases hji : j = i
    · subst hji; exact hy.wpOp hi trivial ⟨fun _ => hrefl w, H⟩
    · have h1 := H.2 j (ready_mono hj hji)
      obtain ⟨hjun, oj, hoj, hall⟩ := mem_ready.1 hj
      have hnot : ∀ e ∈ oj.after, Region.binds md e = true → e.on ≠ i := fun e he hb heq => by
        have h1 := hall e he hb
        have h0 := (mem_ready.1 hr).1
        rw [heq] at h1
        rcases Nat.lt_or_ge i listed.size with h' | h'
        · simp [h'] at h0 h1; rw [h0] at h1; cases h1
        · simp [Array.getElem?_eq_none h'] at h1
      have h2 := wpOp_putIf hoj (hfree j oj hoj hji hjun hnot) (fun cs b => hsel i oi cs b hi) (fun cs b => hsel j oj cs b hoj) hQ hy h1
      have hfree' : ∀ k ok, ops[k]? = some ok → k ≠ i → (listed.setIfInBounds j true).getD k true = false →
          (∀ e ∈ ok.after, Region.binds md e = true → e.on ≠ i) → oi.apart ops ok = true := fun k ok hk hki hun hno => by
        refine hfree k ok hk hki ?_ hno
        by_cases hjk : j = k
        · subst hjk; exact hjun
        · rw [getD_set_ne true hjk] at hun; exact hun
      refine wpOp_mono (fun a' w' h3 => ⟨h3.2.1, ih (listed.setIfInBounds j true) a' w' hfree' (ready_mono hr (Ne.symm hji)) h3.1 ?_⟩) h2
      rw [Array.setIfInBounds_comm _ _ hji]
      exact h3.2.2

def mixL3 (P : Program) (ops : Array Oper) (Q : Exit → Act → World → Prop) (R : World → World → Prop) (ds : List Nat) : List (Nat × Nat) → Act → World → Prop
  | [], a, w => Q .normal a w
  | (0, i) :: rest, a, w => ∃ o v, ops[i]? = some o ∧ YieldsIf P ops (fun _ => True) o v a ∧ mixL3 P ops Q R ds rest (a.put o.dst v) w
  | (1, i) :: rest, a, w => ∃ o v, ops[i]? = some o ∧ YieldsIf P ops (R w) o v a ∧ mixL3 P ops Q R ds rest (a.put o.dst v) w
  | (_, i) :: rest, a, w => wpOp P ops Q i (fun a' w' => (i ∉ ds → R w w') ∧ mixL3 P ops Q R ds rest a' w') a w
def mixOk3 (md : Region.Mode) (ops : Array Oper) (ds : List Nat) : List (Nat × Nat) → Array Bool → Bool
  | [], listed => (Region.ready md ops listed).isEmpty
  | (0, i) :: rest, listed => Region.free md ops listed i && (Region.ready md ops listed).contains i && mixOk3 md ops ds rest (listed.setIfInBounds i true)
  | (1, i) :: rest, listed => Region.free md ops listed i && (Region.ready md ops listed).contains i && (ds.all fun d => listed.getD d true || waitsB md ops i ops.size d) && mixOk3 md ops ds rest (listed.setIfInBounds i true)
  | (_, i) :: rest, listed => (Region.ready md ops listed == [i]) && mixOk3 md ops ds rest (listed.setIfInBounds i true)

theorem wpAnyR_of_mix3 (hrefl : ∀ w, R w w) (htrans : ∀ a b c, R a b → R b c → R a c) (hs : Region.noSelect ops = true) (hQ : ∀ d v c a w, Q (.panic c) (Act.put a d v) w → Q (.panic c) a w) :
    ∀ (l : List (Nat × Nat)) (listed : Array Bool) (a : Act) (w : World), Closed md ops listed → mixOk3 md ops ds l listed = true → mixL3 P ops Q R ds l a w → wpAnyR P md ops Q R ds l.length listed a w
  | [], listed, a, w, _, hok, h => ⟨by simpa [mixOk3] using hok, h⟩
  | (0, i) :: rest, listed, a, w, hc, hok, h => by
    simp only [mixOk3, Bool.and_eq_true] at hok
    obtain ⟨⟨h1, h2⟩, h3⟩ := hok
    obtain ⟨o, v, hi, hy, h4⟩ := h
    have h6 : i ∈ Region.ready md ops listed := by simpa using h2
    exact wpAnyR_free hrefl hi (Region.noSelect_spec hs) (fun c a w => hQ _ _ c a w) rest.length listed a w (Region.free_spec hi h1) h6 hy (wpAnyR_of_mix3 hrefl htrans hs hQ rest _ _ _ (hc.set h6) h3 h4)
  | (1, i) :: rest, listed, a, w, hc, hok, h => by
    simp only [mixOk3, Bool.and_eq_true] at hok
    obtain ⟨⟨⟨h1, h2⟩, h5⟩, h3⟩ := hok
    obtain ⟨o, v, hi, hy, h4⟩ := h
    have h6 : i ∈ Region.ready md ops listed := by simpa using h2
    exact wpAnyR_first hrefl htrans hi (Region.noSelect_spec hs) (fun c a w => hQ _ _ c a w) ops.size rest.length listed a w (Region.free_spec hi h1) hc
      (fun d hm hun => by have := List.all_eq_true.1 h5 d hm; rw [hun] at this; simpa using this) h6 hy (wpAnyR_of_mix3 hrefl htrans hs hQ rest _ _ _ (hc.set h6) h3 h4)
  | (m + 2, i) :: rest, listed, a, w, hc, hok, h => by
    simp only [mixOk3, Bool.and_eq_true, beq_iff_eq] at hok
    obtain ⟨h1, h3⟩ := hok
    refine ⟨fun h0 => absurd (h1 ▸ h0) (by simp), fun j hj => ?_⟩
    rw [h1, List.mem_singleton] at hj
    subst hj
    exact wpOp_mono (fun a' w' h5 => ⟨h5.1, wpAnyR_of_mix3 hrefl htrans hs hQ rest _ _ _ (hc.set (by rw [h1]; exact List.mem_singleton.2 rfl)) h3 h5.2⟩) h

def mixStart3 (ops : Array Oper) (ds : List Nat) (l : List (Nat × Nat)) : Bool := Region.noSelect ops && l.length == ops.size && mixOk3 .any ops ds l (Array.replicate ops.size false)
theorem wp_region_mix3 {id : Nat} {a : Act} {w : World} (R : World → World → Prop) (hrefl : ∀ w, R w w) (htrans : ∀ a b c, R a b → R b c → R a c) (ds : List Nat) (l : List (Nat × Nat)) (hm : P.follows .mixedOrders = true) (hok : mixStart3 ops ds l = true)
    (hQ : ∀ d v c a w, Q (.panic c) (Act.put a d v) w → Q (.panic c) a w) (h : mixL3 P ops Q R ds l a w.drew) : (Code.region id ops true).wp P Q a w := by
  simp only [mixStart3, Bool.and_eq_true, beq_iff_eq] at hok
  obtain ⟨⟨h1, h2⟩, h3⟩ := hok
  refine wp_region_any hm (wpAny_of_R (R := R) (ds := ds) _ _ _ _ ?_)
  rw [← h2]
  have := wpAnyR_of_mix3 (md := .any) hrefl htrans h1 hQ l _ a w.drew (fun j oj _ hl => by rw [Array.getD_eq_getD_getElem?, Array.getElem?_replicate] at hl; split at hl <;> simp at hl) h3 h
  rw [← h2] at this
  exact this

theorem mix3_free {i : Nat} {rest : List (Nat × Nat)} {o : Oper} {v : Value} {a : Act} {w : World} (hi : ops[i]? = some o) (hw : Region.wanted o (yielded ops a.tmps) = true)
    (hy : ∀ w', (execOp a.eval o).run P w' = .ok (.value v) w') (h : mixL3 P ops Q R ds rest (a.put o.dst v) w) : mixL3 P ops Q R ds ((0, i) :: rest) a w :=
  ⟨o, v, hi, .inl ⟨hw, fun w' _ => hy w'⟩, h⟩
theorem mix3_freeOff {i : Nat} {rest : List (Nat × Nat)} {o : Oper} {a : Act} {w : World} (hi : ops[i]? = some o) (hw : Region.wanted o (yielded ops a.tmps) = false)
    (h : mixL3 P ops Q R ds rest (a.put o.dst undef) w) : mixL3 P ops Q R ds ((0, i) :: rest) a w :=
  ⟨o, undef, hi, .inr ⟨hw, rfl⟩, h⟩
theorem mix3_pure {i : Nat} {rest : List (Nat × Nat)} {o : Oper} {v : Value} {a : Act} {w : World} (hi : ops[i]? = some o) (hw : Region.wanted o (yielded ops a.tmps) = true)
    (hy : ∀ w', R w w' → (execOp a.eval o).run P w' = .ok (.value v) w') (h : mixL3 P ops Q R ds rest (a.put o.dst v) w) : mixL3 P ops Q R ds ((1, i) :: rest) a w :=
  ⟨o, v, hi, .inl ⟨hw, hy⟩, h⟩
theorem mix3_off {i : Nat} {rest : List (Nat × Nat)} {o : Oper} {a : Act} {w : World} (hi : ops[i]? = some o) (hw : Region.wanted o (yielded ops a.tmps) = false)
    (h : mixL3 P ops Q R ds rest (a.put o.dst undef) w) : mixL3 P ops Q R ds ((1, i) :: rest) a w :=
  ⟨o, undef, hi, .inr ⟨hw, rfl⟩, h⟩
theorem mix3_done {a : Act} {w : World} (h : Q .normal a w) : mixL3 P ops Q R ds [] a w := h
theorem mix3_norm {l : List (Nat × Nat)} {a a' : Act} {w : World} (ha : a = a') (h : mixL3 P ops Q R ds l a' w) : mixL3 P ops Q R ds l a w := by subst ha; exact h
def mixQ3 (P : Program) (ops : Array Oper) (Q : Exit → Act → World → Prop) (R : World → World → Prop) (ds : List Nat) (i : Nat) (w : World) (rest : List (Nat × Nat)) : Exit → Act → World → Prop
  | .normal, a', w' => (i ∉ ds → R w w') ∧ mixL3 P ops Q R ds rest a' w'
  | e, a', w' => Q e a' w'
theorem mixQ3_normal {i : Nat} {a a' : Act} {w w' : World} {rest : List (Nat × Nat)} (h1 : R w w') (ha : a = a') (h2 : mixL3 P ops Q R ds rest a' w') : mixQ3 P ops Q R ds i w rest .normal a w' := by subst ha; exact ⟨fun _ => h1, h2⟩
theorem mixQ3_last {i : Nat} {a a' : Act} {w w' : World} {rest : List (Nat × Nat)} (h1 : i ∈ ds) (ha : a = a') (h2 : mixL3 P ops Q R ds rest a' w') : mixQ3 P ops Q R ds i w rest .normal a w' := by subst ha; exact ⟨fun h => absurd h1 h, h2⟩
theorem letsOut_of_mix3 {i : Nat} {w : World} {rest : List (Nat × Nat)} (h : LetsOut (mixQ3 P ops Q R ds i w rest)) : LetsOut Q := by
  obtain ⟨a, w', h⟩ := h
  exact ⟨a, w', h⟩
theorem mix3_skip (hrefl : ∀ w, R w w) {i : Nat} {rest : List (Nat × Nat)} {o : Oper} {a : Act} {w : World} (hi : ops[i]? = some o) (hw : Region.wanted o (yielded ops a.tmps) = false)
    (h : mixL3 P ops Q R ds rest (a.put o.dst undef) w) : mixL3 P ops Q R ds ((2, i) :: rest) a w := by
  unfold mixL3 wpOp
  simp only [hi, hw, Bool.false_eq_true, if_false]
  exact ⟨fun _ => hrefl w, h⟩
theorem mix3_eff {i : Nat} {rest : List (Nat × Nat)} {o : Oper} {a : Act} {w : World} (hi : ops[i]? = some o) (h : wpList P ops (mixQ3 P ops Q R ds i w rest) [o] a w) : mixL3 P ops Q R ds ((2, i) :: rest) a w := by
  show wpOp P ops Q i (fun a' w' => (i ∉ ds → R w w') ∧ mixL3 P ops Q R ds rest a' w') a w
  unfold wpOp
  simp only [hi]
  unfold wpList at h
  split at h
  · rename_i hw
    simp only [hw, if_true]
    rcases h with h | ⟨h1, h2⟩
    · refine .inl ?_
      unfold Oper.wp at *
      generalize (execOp a.eval o).run P w = r at *
      cases r with
      | ok n w' =>
        cases n <;> simp only [Oper.upon] at h ⊢
        case value u => exact h
        case skip => exact h
        case defer d => exact h
        case enter f args =>
          refine Calls.mono h fun e w'' he => ?_
          cases e with
          | returned u => exact he
          | panicked c => exact he
          | outgrown => exact letsOut_of_mix3 he
        case row row args => exact Rows.mono h fun u w'' he => he
      | halt x w' =>
        cases x <;> simp only [Oper.upon] at h ⊢
        case panic u => exact h
    · exact .inr ⟨h1, letsOut_of_mix3 h2⟩
  · rename_i hw
    simp only [hw]
    exact h
end
end Go.Proofs.Ytebcginnnjigjaa

end
section
/- As Mix3, with forks: where two that may do anything are ready at once, each order is walked. And: the rest of a walk cut off behind a region. -/
open Go.RowKit
namespace Go.Proofs.Ytebcginnnjigjaa

inductive MTree where
  | done
  | step (k i : Nat) (t : MTree)
  | fork (i j : Nat) (t1 t2 : MTree)

section
variable {P : Program} {ops : Array Oper} {Q : Exit → Act → World → Prop} {md : Region.Mode} {R : World → World → Prop} {ds : List Nat}

def mixT (P : Program) (ops : Array Oper) (Q : Exit → Act → World → Prop) (R : World → World → Prop) (ds : List Nat) : MTree → Act → World → Prop
  | .done, a, w => Q .normal a w
  | .step 0 i rest, a, w => ∃ o v, ops[i]? = some o ∧ YieldsIf P ops (fun _ => True) o v a ∧ mixT P ops Q R ds rest (a.put o.dst v) w
  | .step 1 i rest, a, w => ∃ o v, ops[i]? = some o ∧ YieldsIf P ops (R w) o v a ∧ mixT P ops Q R ds rest (a.put o.dst v) w
  | .step _ i rest, a, w => wpOp P ops Q i (fun a' w' => (i ∉ ds → R w w') ∧ mixT P ops Q R ds rest a' w') a w
  | .fork i j t1 t2, a, w => wpOp P ops Q i (fun a' w' => (i ∉ ds → R w w') ∧ mixT P ops Q R ds t1 a' w') a w ∧ wpOp P ops Q j (fun a' w' => (j ∉ ds → R w w') ∧ mixT P ops Q R ds t2 a' w') a w
def mixOkT (md : Region.Mode) (ops : Array Oper) (ds : List Nat) : MTree → Nat → Array Bool → Bool
  | .done, n, listed => n == 0 && (Region.ready md ops listed).isEmpty
  | .step _ _ _, 0, _ => false
  | .fork _ _ _ _, 0, _ => false
  | .step 0 i rest, n + 1, listed => Region.free md ops listed i && (Region.ready md ops listed).contains i && mixOkT md ops ds rest n (listed.setIfInBounds i true)
  | .step 1 i rest, n + 1, listed => Region.free md ops listed i && (Region.ready md ops listed).contains i && (ds.all fun d => listed.getD d true || waitsB md ops i ops.size d) && mixOkT md ops ds rest n (listed.setIfInBounds i true)
  | .step _ i rest, n + 1, listed => (Region.ready md ops listed == [i]) && mixOkT md ops ds rest n (listed.setIfInBounds i true)
  | .fork i j t1 t2, n + 1, listed => (Region.ready md ops listed == [i, j]) && mixOkT md ops ds t1 n (listed.setIfInBounds i true) && mixOkT md ops ds t2 n (listed.setIfInBounds j true)

theorem wpAnyR_of_tree (hrefl : ∀ w, R w w) (htrans : ∀ a b c, R a b → R b c → R a c) (hs : Region.noSelect ops = true) (hQ : ∀ d v c a w, Q (.panic c) (Act.put a d v) w → Q (.panic c) a w) :
    ∀ (t : MTree) (n : Nat) (listed : Array Bool) (a : Act) (w : World), Closed md ops listed → mixOkT md ops ds t n listed = true → mixT P ops Q R ds t a w → wpAnyR P md ops Q R ds n listed a w
  | .done, n, listed, a, w, _, hok, h => by
    simp only [mixOkT, Bool.and_eq_true, beq_iff_eq] at hok
    obtain ⟨rfl, h1⟩ := hok
    exact ⟨by simpa using h1, h⟩
  | .step _ _ _, 0, _, _, _, _, hok, _ => by simp [mixOkT] at hok
  | .fork _ _ _ _, 0, _, _, _, _, hok, _ => by simp [mixOkT] at hok
  | .step 0 i rest, n + 1, listed, a, w, hc, hok, h => by
    simp only [mixOkT, Bool.and_eq_true] at hok
    obtain ⟨⟨h1, h2⟩, h3⟩ := hok
    obtain ⟨o, v, hi, hy, h4⟩ := h
    have h6 : i ∈ Region.ready md ops listed := by simpa using h2
    exact wpAnyR_free hrefl hi (Region.noSelect_spec hs) (fun c a w => hQ _ _ c a w) n listed a w (Region.free_spec hi h1) h6 hy (wpAnyR_of_tree hrefl htrans hs hQ rest _ _ _ _ (hc.set h6) h3 h4)
  | .step 1 i rest, n + 1, listed, a, w, hc, hok, h => by
    simp only [mixOkT, Bool.and_eq_true] at hok
    obtain ⟨⟨⟨h1, h2⟩, h5⟩, h3⟩ := hok
    obtain ⟨o, v, hi, hy, h4⟩ := h
    have h6 : i ∈ Region.ready md ops listed := by simpa using h2
    exact wpAnyR_first hrefl htrans hi (Region.noSelect_spec hs) (fun c a w => hQ _ _ c a w) ops.size n listed a w (Region.free_spec hi h1) hc
      (fun d hm hun => by have := List.all_eq_true.1 h5 d hm; rw [hun] at this; simpa using this) h6 hy (wpAnyR_of_tree hrefl htrans hs hQ rest _ _ _ _ (hc.set h6) h3 h4)
  | .step (m + 2) i rest, n + 1, listed, a, w, hc, hok, h => by
    simp only [mixOkT, Bool.and_eq_true, beq_iff_eq] at hok
    obtain ⟨h1, h3⟩ := hok
    refine ⟨fun h0 => absurd (h1 ▸ h0) (by simp), fun j hj => ?_⟩
    rw [h1, List.mem_singleton] at hj
    subst hj
    exact wpOp_mono (fun a' w' h5 => ⟨h5.1, wpAnyR_of_tree hrefl htrans hs hQ rest _ _ _ _ (hc.set (by rw [h1]; exact List.mem_singleton.2 rfl)) h3 h5.2⟩) h
  | .fork i j t1 t2, n + 1, listed, a, w, hc, hok, h => by
    simp only [mixOkT, Bool.and_eq_true, beq_iff_eq] at hok
    obtain ⟨⟨h1, h2⟩, h3⟩ := hok
    refine ⟨fun h0 => absurd (h1 ▸ h0) (by simp), fun k hk => ?_⟩
    have hk' := hk
    rw [h1] at hk
    simp only [List.mem_cons, List.mem_nil_iff, or_false] at hk
    rcases hk with rfl | rfl
    · exact wpOp_mono (fun a' w' h5 => ⟨h5.1, wpAnyR_of_tree hrefl htrans hs hQ t1 _ _ _ _ (hc.set hk') h2 h5.2⟩) h.1
    · exact wpOp_mono (fun a' w' h5 => ⟨h5.1, wpAnyR_of_tree hrefl htrans hs hQ t2 _ _ _ _ (hc.set hk') h3 h5.2⟩) h.2

def treeStart (ops : Array Oper) (ds : List Nat) (t : MTree) : Bool := Region.noSelect ops && mixOkT .any ops ds t ops.size (Array.replicate ops.size false)
theorem wp_region_tree {id : Nat} {a : Act} {w : World} (R : World → World → Prop) (hrefl : ∀ w, R w w) (htrans : ∀ a b c, R a b → R b c → R a c) (ds : List Nat) (t : MTree) (hm : P.follows .mixedOrders = true) (hok : treeStart ops ds t = true)
    (hQ : ∀ d v c a w, Q (.panic c) (Act.put a d v) w → Q (.panic c) a w) (h : mixT P ops Q R ds t a w.drew) : (Code.region id ops true).wp P Q a w := by
  simp only [treeStart, Bool.and_eq_true] at hok
  obtain ⟨h1, h3⟩ := hok
  refine wp_region_any hm (wpAny_of_R (R := R) (ds := ds) _ _ _ _ ?_)
  exact wpAnyR_of_tree (md := .any) hrefl htrans h1 hQ t _ _ a w.drew (fun j oj _ hl => by rw [Array.getD_eq_getD_getElem?, Array.getElem?_replicate] at hl; split at hl <;> simp at hl) h3 h

theorem tree_free {i : Nat} {rest : MTree} {o : Oper} {v : Value} {a : Act} {w : World} (hi : ops[i]? = some o) (hw : Region.wanted o (yielded ops a.tmps) = true)
    (hy : ∀ w', (execOp a.eval o).run P w' = .ok (.value v) w') (h : mixT P ops Q R ds rest (a.put o.dst v) w) : mixT P ops Q R ds (.step 0 i rest) a w :=
  ⟨o, v, hi, .inl ⟨hw, fun w' _ => hy w'⟩, h⟩
theorem tree_freeOff {i : Nat} {rest : MTree} {o : Oper} {a : Act} {w : World} (hi : ops[i]? = some o) (hw : Region.wanted o (yielded ops a.tmps) = false)
    (h : mixT P ops Q R ds rest (a.put o.dst undef) w) : mixT P ops Q R ds (.step 0 i rest) a w :=
  ⟨o, undef, hi, .inr ⟨hw, rfl⟩, h⟩
theorem tree_pure {i : Nat} {rest : MTree} {o : Oper} {v : Value} {a : Act} {w : World} (hi : ops[i]? = some o) (hw : Region.wanted o (yielded ops a.tmps) = true)
    (hy : ∀ w', R w w' → (execOp a.eval o).run P w' = .ok (.value v) w') (h : mixT P ops Q R ds rest (a.put o.dst v) w) : mixT P ops Q R ds (.step 1 i rest) a w :=
  ⟨o, v, hi, .inl ⟨hw, hy⟩, h⟩
theorem tree_off {i : Nat} {rest : MTree} {o : Oper} {a : Act} {w : World} (hi : ops[i]? = some o) (hw : Region.wanted o (yielded ops a.tmps) = false)
    (h : mixT P ops Q R ds rest (a.put o.dst undef) w) : mixT P ops Q R ds (.step 1 i rest) a w :=
  ⟨o, undef, hi, .inr ⟨hw, rfl⟩, h⟩
theorem tree_done {a : Act} {w : World} (h : Q .normal a w) : mixT P ops Q R ds .done a w := h
theorem tree_norm {l : MTree} {a a' : Act} {w : World} (ha : a = a') (h : mixT P ops Q R ds l a' w) : mixT P ops Q R ds l a w := by subst ha; exact h
def treeQ (P : Program) (ops : Array Oper) (Q : Exit → Act → World → Prop) (R : World → World → Prop) (ds : List Nat) (i : Nat) (w : World) (rest : MTree) : Exit → Act → World → Prop
  | .normal, a', w' => (i ∉ ds → R w w') ∧ mixT P ops Q R ds rest a' w'
  | e, a', w' => Q e a' w'
theorem treeQ_normal {i : Nat} {a a' : Act} {w w' : World} {rest : MTree} (h1 : R w w') (ha : a = a') (h2 : mixT P ops Q R ds rest a' w') : treeQ P ops Q R ds i w rest .normal a w' := by subst ha; exact ⟨fun _ => h1, h2⟩
theorem treeQ_last {i : Nat} {a a' : Act} {w w' : World} {rest : MTree} (h1 : i ∈ ds) (ha : a = a') (h2 : mixT P ops Q R ds rest a' w') : treeQ P ops Q R ds i w rest .normal a w' := by subst ha; exact ⟨fun h => absurd h1 h, h2⟩
theorem letsOut_of_tree {i : Nat} {w : World} {rest : MTree} (h : LetsOut (treeQ P ops Q R ds i w rest)) : LetsOut Q := by
  obtain ⟨a, w', h⟩ := h
  exact ⟨a, w', h⟩
theorem tree_op {i : Nat} {rest : MTree} {o : Oper} {a : Act} {w : World} (hi : ops[i]? = some o) (h : wpList P ops (treeQ P ops Q R ds i w rest) [o] a w) :
    wpOp P ops Q i (fun a' w' => (i ∉ ds → R w w') ∧ mixT P ops Q R ds rest a' w') a w := by
  unfold wpOp
  simp only [hi]
  unfold wpList at h
  split at h
  · rename_i hw
    simp only [hw, if_true]
    rcases h with h | ⟨h1, h2⟩
    · refine .inl ?_
      unfold Oper.wp at *
      generalize (execOp a.eval o).run P w = r at *
      cases r with
      | ok n w' =>
        cases n <;> simp only [Oper.upon] at h ⊢
        case value u => exact h
        case skip => exact h
        case defer d => exact h
        case enter f args =>
          refine Calls.mono h fun e w'' he => ?_
          cases e with
          | returned u => exact he
          | panicked c => exact he
          | outgrown => exact letsOut_of_tree he
        case row row args => exact Rows.mono h fun u w'' he => he
      | halt x w' =>
        cases x <;> simp only [Oper.upon] at h ⊢
        case panic u => exact h
    · exact .inr ⟨h1, letsOut_of_tree h2⟩
  · rename_i hw
    simp only [hw]
    exact h
theorem tree_eff {i : Nat} {rest : MTree} {o : Oper} {a : Act} {w : World} (hi : ops[i]? = some o) (h : wpList P ops (treeQ P ops Q R ds i w rest) [o] a w) : mixT P ops Q R ds (.step 2 i rest) a w := tree_op hi h
theorem tree_fork {i j : Nat} {t1 t2 : MTree} {o p : Oper} {a : Act} {w : World} (hi : ops[i]? = some o) (hj : ops[j]? = some p) (h1 : wpList P ops (treeQ P ops Q R ds i w t1) [o] a w) (h2 : wpList P ops (treeQ P ops Q R ds j w t2) [p] a w) : mixT P ops Q R ds (.fork i j t1 t2) a w := ⟨tree_op hi h1, tree_op hj h2⟩
end

/-- Some temporaries written, one after another. -/
def puts (a : Act) : List (Option Nat × Value) → Act
  | [] => a
  | p :: l => puts (a.put p.1 p.2) l
/-- A region (any code) by what it leaves, and the rest from there. -/
theorem wp_cut {P : Program} {c : Code} {Q : Exit → Act → World → Prop} {a : Act} {w : World} (U : Nat → List (Option Nat × Value)) (J : Nat → World → Prop)
    (h1 : c.wp P (fun e a' w' => e = .normal ∧ ∃ f, a' = puts a (U f) ∧ J f w') a w) (h2 : ∀ f w', J f w' → Q .normal (puts a (U f)) w') : c.wp P Q a w := by
  refine Code.wp_mono ?_ h1
  rintro e a' w' ⟨rfl, f, rfl, hj⟩
  exact h2 f w' hj
end Go.Proofs.Ytebcginnnjigjaa

end
