/- Images of epochs, in a row; a past of the program's. -/
import Derived.Test.YtiolfnnkkflaiaaTab2
import Derived.Test.YtiolfnnkkflaiaaDel3
open Go.RowKit
namespace Go.Proofs.Ytiolfnnkkflaiaa

/-- An image: its epoch, its texts in a row of their own. -/
structure IM where
  e : Nat
  A : Option Addr
  c : Nat
  xs : List ByteArray
def ivs (I : List IM) : List Value := I.flatMap fun m => [.int .u64 m.e, .slice m.A m.xs.length m.c]
theorem ivs_cons (m : IM) (I : List IM) : ivs (m :: I) = .int .u64 m.e :: .slice m.A m.xs.length m.c :: ivs I := rfl
theorem ivs_append (a b : List IM) : ivs (a ++ b) = ivs a ++ ivs b := by simp [ivs]
theorem ivs_length (I : List IM) : (ivs I).length = I.length * 2 := by
  induction I with
  | nil => rfl
  | cons p ps ih => rw [ivs_cons]; simp [ih]; omega
theorem ivs_get (I : List IM) : ∀ (k : Nat) (hk : k < I.length), (ivs I)[k * 2]? = some (.int .u64 I[k].e) ∧ (ivs I)[k * 2 + 1]? = some (.slice I[k].A I[k].xs.length I[k].c) := by
  induction I with
  | nil => intro k hk; simp at hk
  | cons p ps ih =>
    intro k hk
    cases k with
    | zero => exact ⟨rfl, rfl⟩
    | succ k =>
      obtain ⟨h0, h1⟩ := ih k (by simpa using hk)
      rw [ivs_cons, show (k + 1) * 2 = k * 2 + 2 by omega]
      exact ⟨h0, h1⟩
theorem oneCell_ivs (I : List IM) : ∀ u ∈ ivs I, u.oneCell' = true := by
  intro u hu
  simp only [ivs, List.mem_flatMap] at hu
  obtain ⟨p, _, hu⟩ := hu
  simp at hu
  rcases hu with rfl | rfl <;> rfl

structure ITab (w : World) (A : Option Addr) (c : Nat) (I : List IM) : Prop where
  row : w.ownsRow 0 110 2 (.slice A I.length c) I.length (ivs I)
  lies : ∀ m ∈ I, SRow w m.A m.c m.xs
  sep : ∀ m ∈ I, ∀ k, blk m.A = some k → blk A ≠ some k
def ITabF (A : Option Addr) (I : List IM) : Nat → Prop := fun i => blk A = some i ∨ ∃ m ∈ I, blk m.A = some i
section
variable {w w1 : World} {A : Option Addr} {c : Nat} {I : List IM}
theorem ITab.nil (w : World) : ITab w none 0 [] := ⟨own_nil w 0 _ 2, fun k hk => by simp at hk, fun k hk => by simp at hk⟩
theorem ITab.foot (h : ITab w A c I) : ∀ i, ITabF A I i → i < w.heap.size := fun i hi => by
  rcases hi with hi | ⟨m, hm, hk⟩
  · exact (World.ownsRow.lt h.row i (by rw [ownBlock_slice]; exact hi)).2
  · exact (h.lies m hm).lt hk
theorem ITab.chg {F : Nat → Prop} (h : ITab w A c I) (hc : Chg F w w1) (hF : ∀ i, ITabF A I i → ¬ F i) : ITab w1 A c I :=
  ⟨ownsRow_chg h.row hc (fun k hk => hF k (.inl (by rw [ownBlock_slice] at hk; exact hk))), fun m hm => (h.lies m hm).chg hc (fun k hk => hF k (.inr ⟨m, hm, hk⟩)), h.sep⟩
end

/-- What a past holds. -/
structure Ps where
  m : List (List ByteArray)
  e : List (Nat × List ByteArray)
def imgs (I : List IM) : List (Nat × List ByteArray) := I.map fun m => (m.e, m.xs)
/-- Block g is a past of the program's. -/
structure PastM (w : World) (g : Nat) (A : Option Addr) (c : Nat) (T : List TR) (B : Option Addr) (d : Nat) (I : List IM) : Prop where
  cell : w.heap[g]? = some (.cells #[.slice A T.length c, .slice B I.length d] 103 (0, 0))
  tab : Tab w A c T
  img : ITab w B d I
  s1 : ¬ TabF A T g
  s2 : ¬ ITabF B I g
  s3 : ∀ i, TabF A T i → ¬ ITabF B I i
def PastF (g : Nat) (A : Option Addr) (T : List TR) (B : Option Addr) (I : List IM) : Nat → Prop := fun i => i = g ∨ TabF A T i ∨ ITabF B I i
def PastP (w : World) (g : Nat) (F : Nat → Prop) (σ : Ps) : Prop :=
  ∃ A c T B d I, PastM w g A c T B d I ∧ σ = ⟨texts T, imgs I⟩ ∧ ∀ i, F i ↔ PastF g A T B I i
def PastPost (w : World) (g : Nat) (F : Nat → Prop) (σ : Ps) (w' : World) : Prop := ∃ F', PastP w' g F' σ ∧ (∀ i, F' i → F i ∨ w.heap.size ≤ i) ∧ Chg F w w'
section
variable {w w1 : World} {g : Nat} {F : Nat → Prop} {σ : Ps} {A : Option Addr} {c : Nat} {T : List TR} {B : Option Addr} {d : Nat} {I : List IM}
theorem PastM.lt (h : PastM w g A c T B d I) : g < w.heap.size := (Array.getElem?_eq_some_iff.1 h.cell).1
theorem PastM.chg {G : Nat → Prop} (h : PastM w g A c T B d I) (hc : Chg G w w1) (hG : ∀ i, PastF g A T B I i → ¬ G i) : PastM w1 g A c T B d I :=
  ⟨(hc.block g h.lt (hG g (.inl rfl))).trans h.cell, h.tab.chg hc (fun i hi => hG i (.inr (.inl hi))), h.img.chg hc (fun i hi => hG i (.inr (.inr hi))), h.s1, h.s2, h.s3⟩
theorem PastP.chg {G : Nat → Prop} (h : PastP w g F σ) (hc : Chg G w w1) (hG : ∀ i, F i → ¬ G i) : PastP w1 g F σ := by
  obtain ⟨A, c, T, B, d, I, hM, hσ, hF⟩ := h
  exact ⟨A, c, T, B, d, I, hM.chg hc (fun i hi => hG i ((hF i).2 hi)), hσ, hF⟩
theorem PastP.below (h : PastP w g F σ) (hb : Below w.heap.size w w1) : PastP w1 g F σ := h.chg (G := fun _ => False) (.of_below hb) (fun _ _ f => f)
theorem PastP.foot (h : PastP w g F σ) : ∀ i, F i → i < w.heap.size := by
  obtain ⟨A, c, T, B, d, I, hM, hσ, hF⟩ := h
  intro i hi
  rcases (hF i).1 hi with rfl | hi | hi
  · exact hM.lt
  · exact hM.tab.foot i hi
  · exact hM.img.foot i hi
theorem PastP.same (h : PastP w1 g F σ) (hc : Chg F w w1) : PastPost w g F σ w1 := ⟨F, h, fun _ hi => .inl hi, hc⟩
end
end Go.Proofs.Ytiolfnnkkflaiaa
