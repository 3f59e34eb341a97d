/- Tables of rows of texts. -/
import Derived.Test.YtiolfnnkkflaiaaTab
open Go.RowKit
namespace Go.Proofs.Ytiolfnnkkflaiaa

def tvs (T : List TR) : List Value := T.map TR.v
theorem tvs_length (T : List TR) : (tvs T).length = T.length := by simp [tvs]
theorem tvs_get (T : List TR) (k : Nat) (hk : k < T.length) : (tvs T)[k]? = some T[k].v := by simp [tvs, hk]
theorem tvs_set (T : List TR) (k : Nat) (t : TR) : (tvs T).set k t.v = tvs (T.set k t) := by simp [tvs, List.map_set]
theorem tvs_append (S T : List TR) : tvs (S ++ T) = tvs S ++ tvs T := by simp [tvs]
theorem oneCell_tvs (T : List TR) : ∀ u ∈ tvs T, u.oneCell' = true := by
  intro u hu
  simp only [tvs, List.mem_map] at hu
  obtain ⟨s, _, rfl⟩ := hu
  rfl
theorem info_sl : (Try.prog.info? 22).map (fun i => (i.zero, i.size, i.bytes)) = some (some (.slice none 0 0), 1, 24) := by kernel_rfl

/-- A table: a row of its own of rows; no two share a block. -/
structure Tab (w : World) (A : Option Addr) (c : Nat) (T : List TR) : Prop where
  row : w.ownsRow 0 22 1 (.slice A T.length c) T.length (tvs T)
  lies : ∀ k (hk : k < T.length), T[k].lies w
  dis : ∀ i j (hi : i < T.length) (hj : j < T.length), T[i].b = T[j].b → i = j
  sep : ∀ k (hk : k < T.length), blk A ≠ some T[k].b
def TabF (A : Option Addr) (T : List TR) : Nat → Prop := fun i => blk A = some i ∨ ∃ k, ∃ hk : k < T.length, T[k].b = i
def texts (T : List TR) : List (List ByteArray) := T.map (·.xs)
section
variable {w w1 : World} {A : Option Addr} {c : Nat} {T : List TR}
theorem Tab.nil (w : World) : Tab w none 0 [] := ⟨own_nil w 0 _ 1, fun k hk => by simp at hk, fun i j hi => by simp at hi, fun k hk => by simp at hk⟩
theorem Tab.foot (h : Tab w A c T) : ∀ i, TabF A T i → i < w.heap.size := fun i hi => by
  rcases hi with hi | ⟨k, hk, rfl⟩
  · exact (World.ownsRow.lt h.row i (by rw [ownBlock_slice]; exact hi)).2
  · exact (h.lies k hk).lt
theorem Tab.chg {F : Nat → Prop} (h : Tab w A c T) (hc : Chg F w w1) (hF : ∀ i, TabF A T i → ¬ F i) : Tab w1 A c T :=
  ⟨ownsRow_chg h.row hc (fun k hk => hF k (.inl (by rw [ownBlock_slice] at hk; exact hk))), fun k hk => (h.lies k hk).chg hc (hF _ (.inr ⟨k, hk, rfl⟩)), h.dis, h.sep⟩
theorem Tab.below (h : Tab w A c T) (hb : Below w.heap.size w w1) : Tab w1 A c T := h.chg (F := fun _ => False) (.of_below hb) (fun _ _ f => f)
theorem Tab.cell (h : Tab w A c T) {k : Nat} (hk : k < T.length) : ∃ b, A = some ⟨b, 0, none⟩ ∧ b < w.heap.size ∧ w.cell? ⟨b, k, none⟩ = some T[k].v ∧ w.frozen? ⟨b, k, none⟩ = false := by
  obtain ⟨g, cap, hv, _, hlt⟩ := World.ownsRow.form h.row (by omega)
  injection hv with hA
  subst hA
  refine ⟨g, rfl, hlt, ?_, World.ownsRow.frozenAt h.row _⟩
  rw [World.ownsRow.cellAt h.row k (by omega)]
  exact tvs_get T k hk
/-- A row of the table is another one: the cell is written behind a change of that row's block alone (or a new block). -/
theorem Tab.set {b : Nat} (h : Tab w (some ⟨b, 0, none⟩) c T) {k : Nat} (hk : k < T.length) {t1 : TR} (hc : Chg (fun i => i = T[k].b) w w1) (ht : t1.lies w1) (hb : t1.b = T[k].b ∨ w.heap.size ≤ t1.b) :
    Tab (w1.setCell ⟨b, k, none⟩ t1.v) (some ⟨b, 0, none⟩) c (T.set k t1) := by
  have hbs : ∀ i (hi : i < T.length), T[i].b ≠ b := fun i hi e => h.sep i hi (by rw [e]; rfl)
  have hblt : b < w.heap.size := h.foot b (.inl rfl)
  have hrow := ownsRow_chg h.row hc (fun i hi e => by
    have : b = i := Option.some.inj hi
    exact hbs k hk (e ▸ this.symm))
  have hst := (World.ownsRow.stored hrow k t1.v).1
  rw [tvs_set] at hst
  have ht1b : t1.b ≠ b := by
    rcases hb with hb | hb
    · rw [hb]; exact hbs k hk
    · omega
  have hset : Chg (fun i => i = b) w1 (w1.setCell ⟨b, k, none⟩ t1.v) := (Chg.refl _ _).set b k _ (fun _ => rfl)
  refine ⟨by rw [List.length_set]; exact hst, fun i hi => ?_, fun i j hi hj => ?_, fun i hi => ?_⟩
  · rw [List.length_set] at hi
    rw [List.getElem_set]
    split
    · exact ht.chg hset ht1b
    · rename_i hne
      exact ((h.lies i hi).chg hc (fun e => hne (h.dis k i hk hi e.symm))).chg hset (hbs i hi)
  · rw [List.length_set] at hi hj
    rw [List.getElem_set, List.getElem_set]
    split <;> split
    · rename_i h1 h2; intro _; omega
    · rename_i h1 h2
      intro e
      rcases hb with hb | hb
      · exact absurd (h.dis k j hk hj (hb ▸ e)) h2
      · have := (h.lies j hj).lt; omega
    · rename_i h1 h2
      intro e
      rcases hb with hb | hb
      · exact absurd (h.dis k i hk hi (hb ▸ e.symm)) h1
      · have := (h.lies i hi).lt; omega
    · exact h.dis i j hi hj
  · rw [List.length_set] at hi
    rw [List.getElem_set]
    split
    · intro e; exact ht1b (Option.some.inj e).symm
    · exact h.sep i hi
end
end Go.Proofs.Ytiolfnnkkflaiaa
