/- A past of the document's: what it is in memory. -/
import Derived.Test.YtiolfnnkkflaiaaPast9
open Go.RowKit
namespace Go.Proofs.Ytiolfnnkkflaiaa

def jvs (I : List IM) : List Value := I.map fun m => .slice m.A m.xs.length m.c
theorem jvs_length (I : List IM) : (jvs I).length = I.length := by simp [jvs]
theorem jvs_append (a b : List IM) : jvs (a ++ b) = jvs a ++ jvs b := by simp [jvs]
theorem jvs_get (I : List IM) (k : Nat) (hk : k < I.length) : (jvs I)[k]? = some (.slice I[k].A I[k].xs.length I[k].c) := by simp [jvs, hk]
theorem oneCell_jvs (I : List IM) : ∀ u ∈ jvs I, u.oneCell' = true := by
  intro u hu
  simp only [jvs, List.mem_map] at hu
  obtain ⟨p, _, rfl⟩ := hu
  rfl
def eps (I : List IM) : List Nat := I.map (·.e)
theorem eps_length (I : List IM) : (eps I).length = I.length := by simp [eps]

/-- The epochs and the images. -/
structure JTab (w : World) (E : Option Addr) (ce : Nat) (B : Option Addr) (d : Nat) (I : List IM) : Prop where
  ep : w.ownsRow 0 57 1 (.slice E I.length ce) I.length (nvs (eps I))
  row : w.ownsRow 0 22 1 (.slice B I.length d) I.length (jvs I)
  lies : ∀ m ∈ I, SRow w m.A m.c m.xs
  sep : ∀ m ∈ I, ∀ k, blk m.A = some k → blk B ≠ some k ∧ blk E ≠ some k
  two : ∀ k, blk E = some k → blk B ≠ some k
def JTabF (E B : Option Addr) (I : List IM) : Nat → Prop := fun i => blk E = some i ∨ blk B = some i ∨ ∃ m ∈ I, blk m.A = some i
section
variable {w w1 : World} {E B : Option Addr} {ce d : Nat} {I : List IM}
theorem JTab.nil (w : World) : JTab w none 0 none 0 [] := ⟨own_nil w 0 _ 1, own_nil w 0 _ 1, fun k hk => by simp at hk, fun k hk => by simp at hk, fun k hk => by cases hk⟩
theorem JTab.foot (h : JTab w E ce B d I) : ∀ i, JTabF E B I i → i < w.heap.size := fun i hi => by
  rcases hi with hi | hi | ⟨m, hm, hk⟩
  · exact (World.ownsRow.lt h.ep i (by rw [ownBlock_slice]; exact hi)).2
  · exact (World.ownsRow.lt h.row i (by rw [ownBlock_slice]; exact hi)).2
  · exact (h.lies m hm).lt hk
theorem JTab.chg {F : Nat → Prop} (h : JTab w E ce B d I) (hc : Chg F w w1) (hF : ∀ i, JTabF E B I i → ¬ F i) : JTab w1 E ce B d I :=
  ⟨ownsRow_chg h.ep hc (fun k hk => hF k (.inl (by rw [ownBlock_slice] at hk; exact hk))), ownsRow_chg h.row hc (fun k hk => hF k (.inr (.inl (by rw [ownBlock_slice] at hk; exact hk)))), fun m hm => (h.lies m hm).chg hc (fun k hk => hF k (.inr (.inr ⟨m, hm, hk⟩))), h.sep, h.two⟩
theorem JTab.ecell (h : JTab w E ce B d I) {k : Nat} (hk : k < I.length) : ∃ b, E = some ⟨b, 0, none⟩ ∧ w.cell? ⟨b, k, none⟩ = some (.int .u64 I[k].e) := by
  obtain ⟨g, cap, hv, _, hlt⟩ := World.ownsRow.form h.ep (by omega)
  injection hv with hA
  subst hA
  refine ⟨g, rfl, ?_⟩
  rw [World.ownsRow.cellAt h.ep k (by omega), nvs_get _ k (by rw [eps_length]; exact hk)]
  simp [eps]
theorem JTab.cell (h : JTab w E ce B d I) {k : Nat} (hk : k < I.length) : ∃ b, B = some ⟨b, 0, none⟩ ∧ w.cell? ⟨b, k, none⟩ = some (.slice I[k].A I[k].xs.length I[k].c) := by
  obtain ⟨g, cap, hv, _, hlt⟩ := World.ownsRow.form h.row (by omega)
  injection hv with hA
  subst hA
  exact ⟨g, rfl, by rw [World.ownsRow.cellAt h.row k (by omega)]; exact jvs_get I k hk⟩
end

/-- Block g is a past of the document's. -/
structure RPM (w : World) (g : Nat) (A : Option Addr) (c : Nat) (T : List TR) (E : Option Addr) (ce : Nat) (B : Option Addr) (d : Nat) (I : List IM) : Prop where
  cell : w.heap[g]? = some (.cells #[.slice A T.length c, .slice E I.length ce, .slice B I.length d] 87 (0, 0))
  tab : Tab w A c T
  img : JTab w E ce B d I
  s1 : ¬ TabF A T g
  s2 : ¬ JTabF E B I g
  s3 : ∀ i, TabF A T i → ¬ JTabF E B I i
def RPF (g : Nat) (A : Option Addr) (T : List TR) (E B : Option Addr) (I : List IM) : Nat → Prop := fun i => i = g ∨ TabF A T i ∨ JTabF E B I i
section
variable {w w1 w2 : World} {g : Nat} {A A1 : Option Addr} {b c c1 : Nat} {T T1 : List TR} {t : TR} {E B E1 B1 : Option Addr} {ce d ce1 d1 : Nat} {I : List IM} {m : IM}
theorem cells3 {v0 v1 v2 : Value} {ty : TypeId} (h : w.heap[g]? = some (.cells #[v0, v1, v2] ty (0, 0))) :
    w.cell? ⟨g, 0, none⟩ = some v0 ∧ w.cell? ⟨g, 1, none⟩ = some v1 ∧ w.cell? ⟨g, 2, none⟩ = some v2 ∧ w.frozen? ⟨g, 0, none⟩ = false ∧ w.frozen? ⟨g, 1, none⟩ = false ∧ w.frozen? ⟨g, 2, none⟩ = false :=
  ⟨by rw [cell_of_row _ _ _ _ _ _ h]; rfl, by rw [cell_of_row _ _ _ _ _ _ h]; rfl, by rw [cell_of_row _ _ _ _ _ _ h]; rfl, frozen_of_row _ _ _ _ _ h, frozen_of_row _ _ _ _ _ h, frozen_of_row _ _ _ _ _ h⟩
theorem RPM.lt (h : RPM w g A c T E ce B d I) : g < w.heap.size := (Array.getElem?_eq_some_iff.1 h.cell).1
theorem RPM.chg {G : Nat → Prop} (h : RPM w g A c T E ce B d I) (hc : Chg G w w1) (hG : ∀ i, RPF g A T E B I i → ¬ G i) : RPM w1 g A c T E ce B d I :=
  ⟨(hc.block g h.lt (hG g (.inl rfl))).trans h.cell, h.tab.chg hc (fun i hi => hG i (.inr (.inl hi))), h.img.chg hc (fun i hi => hG i (.inr (.inr hi))), h.s1, h.s2, h.s3⟩
theorem RPM.below (h : RPM w g A c T E ce B d I) (hb : Below w.heap.size w w1) : RPM w1 g A c T E ce B d I := h.chg (G := fun _ => False) (.of_below hb) (fun _ _ f => f)
theorem RPM.foot (h : RPM w g A c T E ce B d I) : ∀ i, RPF g A T E B I i → i < w.heap.size := fun i hi => by
  rcases hi with rfl | hi | hi
  · exact h.lt
  · exact h.tab.foot i hi
  · exact h.img.foot i hi
/-- A row of a past is another one. -/
theorem RPM.set (h : RPM w g (some ⟨b, 0, none⟩) c T E ce B d I) {k : Nat} (hk : k < T.length) {t1 : TR} (hc : Chg (fun i => i = T[k].b) w w1) (ht : t1.lies w1) (hb : t1.b = T[k].b ∨ w.heap.size ≤ t1.b) :
    RPM (w1.setCell ⟨b, k, none⟩ t1.v) g (some ⟨b, 0, none⟩) c (T.set k t1) E ce B d I ∧ (∀ i, RPF g (some ⟨b, 0, none⟩) (T.set k t1) E B I i → RPF g (some ⟨b, 0, none⟩) T E B I i ∨ w.heap.size ≤ i) ∧ Chg (RPF g (some ⟨b, 0, none⟩) T E B I) w (w1.setCell ⟨b, k, none⟩ t1.v) := by
  have hgb : g ≠ b := fun e => h.s1 (.inl (by rw [e]; rfl))
  have hgt : g ≠ T[k].b := fun e => h.s1 (.inr ⟨k, hk, e.symm⟩)
  have hF : ∀ i, TabF (some ⟨b, 0, none⟩) (T.set k t1) i → TabF (some ⟨b, 0, none⟩) T i ∨ w.heap.size ≤ i := by
    rintro i (hi | ⟨j, hj, hi⟩)
    · exact .inl (.inl hi)
    · rw [List.length_set] at hj
      rw [List.getElem_set] at hi
      split at hi
      · rcases hb with hb | hb
        · exact .inl (.inr ⟨k, hk, hb ▸ hi⟩)
        · right; omega
      · exact .inl (.inr ⟨j, hj, hi⟩)
  have hset : Chg (fun i => i = b) w1 (w1.setCell ⟨b, k, none⟩ t1.v) := (Chg.refl _ _).set b k _ (fun _ => rfl)
  have hI : JTab (w1.setCell ⟨b, k, none⟩ t1.v) E ce B d I := (h.img.chg hc (fun i hi e => h.s3 T[k].b (.inr ⟨k, hk, rfl⟩) (e ▸ hi))).chg hset (fun i hi e => h.s3 b (.inl rfl) (e ▸ hi))
  refine ⟨⟨?_, h.tab.set hk hc ht hb, hI, fun hh => ?_, h.s2, fun i hi hj => ?_⟩, ?_, ?_⟩
  · rw [List.length_set]
    exact (hset.block g (Nat.lt_of_lt_of_le h.lt hc.size) hgb).trans ((hc.block g h.lt hgt).trans h.cell)
  · rcases hF g hh with h1 | h1
    · exact h.s1 h1
    · have := h.lt; omega
  · rcases hF i hi with h1 | h1
    · exact h.s3 i h1 hj
    · have := h.img.foot i hj; omega
  · rintro i (hi | hi | hi)
    · exact .inl (.inl hi)
    · exact (hF i hi).imp (fun h => .inr (.inl h)) id
    · exact .inl (.inr (.inr hi))
  · exact (hc.mono (fun i _ e => .inr (.inl (.inr ⟨k, hk, e.symm⟩)))).trans hset (fun i _ e => .inr (.inl (.inl (by rw [e]; rfl))))
/-- What a past's rows turned into. -/
structure RPD (w0 : World) (g : Nat) (A : Option Addr) (c : Nat) (T : List TR) (E : Option Addr) (ce : Nat) (B : Option Addr) (d : Nat) (I : List IM) (w1 : World) (T1 : List TR) : Prop where
  m : RPM w1 g A c T1 E ce B d I
  len : T1.length = T.length
  foot : ∀ i, RPF g A T1 E B I i → RPF g A T E B I i ∨ w0.heap.size ≤ i
  chg : Chg (RPF g A T E B I) w0 w1
theorem RPD.refl (h : RPM w g A c T E ce B d I) : RPD w g A c T E ce B d I w T := ⟨h, rfl, fun _ h => .inl h, Chg.refl _ _⟩
theorem RPD.below (h : RPD w g A c T E ce B d I w1 T1) (hb : Below w1.heap.size w1 w2) : RPD w g A c T E ce B d I w2 T1 :=
  ⟨h.m.below hb, h.len, h.foot, h.chg.trans (G := fun _ => False) (.of_below hb) (fun _ _ f => f.elim)⟩
theorem RPD.set (h : RPD w g (some ⟨b, 0, none⟩) c T E ce B d I w1 T1) {k : Nat} (hk : k < T1.length) {t1 : TR} (hc : Chg (fun i => i = T1[k].b) w1 w2) (ht : t1.lies w2) (hb : t1.b = T1[k].b ∨ w1.heap.size ≤ t1.b) :
    RPD w g (some ⟨b, 0, none⟩) c T E ce B d I (w2.setCell ⟨b, k, none⟩ t1.v) (T1.set k t1) := by
  obtain ⟨h1, h2, h3⟩ := h.m.set hk hc ht hb
  refine ⟨h1, by rw [List.length_set]; exact h.len, fun i hi => ?_, h.chg.trans h3 (fun i hi hf => ?_)⟩
  · rcases h2 i hi with h2 | h2
    · exact h.foot i h2
    · right; exact Nat.le_trans h.chg.size h2
  · rcases h.foot i hf with h4 | h4
    · exact h4
    · omega
/-- A past has one row more: the table grew from w1 to w2, the head is written. -/
theorem RPM.push (h : RPM w g A c T E ce B d I) (hb : Below w.heap.size w w1) (hn : w.heap.size ≤ t.b) (ht : Tab w2 A1 c1 (T ++ [t])) (hc : Chg (fun i => blk A = some i) w1 w2) (hk : ∀ k, blk A1 = some k → blk A = some k ∨ k = w1.heap.size) :
    RPM (w2.setCell ⟨g, 0, none⟩ (.slice A1 (T ++ [t]).length c1)) g A1 c1 (T ++ [t]) E ce B d I ∧ (∀ i, RPF g A1 (T ++ [t]) E B I i → RPF g A T E B I i ∨ w.heap.size ≤ i) ∧ Chg (RPF g A T E B I) w (w2.setCell ⟨g, 0, none⟩ (.slice A1 (T ++ [t]).length c1)) := by
  have hgA : blk A ≠ some g := fun e => h.s1 (.inl e)
  have hg : w2.heap[g]? = some (.cells #[.slice A T.length c, .slice E I.length ce, .slice B I.length d] 87 (0, 0)) := (hc.block g (Nat.lt_of_lt_of_le h.lt hb.size) hgA).trans ((hb.block g h.lt).trans h.cell)
  have hset : Chg (fun i => i = g) w2 (w2.setCell ⟨g, 0, none⟩ (.slice A1 (T ++ [t]).length c1)) := (Chg.refl _ _).set g 0 _ (fun _ => rfl)
  have hF : ∀ i, TabF A1 (T ++ [t]) i → TabF A T i ∨ w.heap.size ≤ i := by
    rintro i (hi | ⟨j, hj, hi⟩)
    · rcases hk i hi with h1 | h1
      · exact .inl (.inl h1)
      · right; have := hb.size; omega
    · by_cases hjT : j < T.length
      · rw [List.getElem_append_left hjT] at hi
        exact .inl (.inr ⟨j, hjT, hi⟩)
      · have : j = T.length := by simp at hj; omega
        subst this
        simp at hi
        right; omega
  have hgF : ¬ TabF A1 (T ++ [t]) g := fun e => by
    rcases hF g e with h1 | h1
    · exact h.s1 h1
    · have := h.lt; omega
  have hI : JTab (w2.setCell ⟨g, 0, none⟩ (.slice A1 (T ++ [t]).length c1)) E ce B d I := ((h.img.chg (F := fun _ => False) (.of_below hb) (fun _ _ f => f)).chg hc (fun i hi e => h.s3 i (.inl e) hi)).chg hset (fun i hi e => h.s2 (e ▸ hi))
  refine ⟨⟨?_, ht.chg hset (fun i hi e => hgF (e ▸ hi)), hI, hgF, h.s2, fun i hi hj => ?_⟩, ?_, ?_⟩
  · exact heap_setCell_same w2 g 0 _ _ _ hg
  · rcases hF i hi with h1 | h1
    · exact h.s3 i h1 hj
    · have := h.img.foot i hj; omega
  · rintro i (hi | hi | hi)
    · exact .inl (.inl hi)
    · exact (hF i hi).imp (fun h => .inr (.inl h)) id
    · exact .inl (.inr (.inr hi))
  · exact ((Chg.of_below (F := RPF g A T E B I) hb).trans hc (fun i _ e => .inr (.inl (.inl e)))).trans hset (fun i _ e => .inl e)

/-! ### whether there is a sector; what it has last; what it may have -/
theorem refIn_any (h : RPM w g A c T E ce B d I) (i : Int) : Calls Try.prog 82 #[.pointer (some ⟨g, 0, none⟩), .int .i64 i] w fun e w' => e = .returned (.bool (decide (inP T.length i))) ∧ w = w' := by
  obtain ⟨c0, _, _, _⟩ := cells3 h.cell
  clear h
  by_cases h0 : i < 0
  · have H := Lib.hid (show decide (inP T.length i) = false from decide_eq_false (by unfold inP; omega))
    have hd : decide (0 ≤ i) = false := decide_eq_false (by omega)
    go_enter Try.func82, Try.ntmps82
    go_wp2_with fail
    go_ret
    exact ⟨by rw [H.out]; rfl, rfl⟩
  · have h0 : 0 ≤ i := by omega
    by_cases h1 : (T.length : Int) ≤ i
    · have H := Lib.hid (show decide (inP T.length i) = false from decide_eq_false (by unfold inP; omega))
      go_enter Try.func82, Try.ntmps82
      go_wp2_with fail
      go_ret
      refine ⟨by rw [H.out]; simp; omega, rfl⟩
    · have h1 : i < (T.length : Int) := by omega
      have H := Lib.hid (show decide (inP T.length i) = true from decide_eq_true (by unfold inP; omega))
      go_enter Try.func82, Try.ntmps82
      go_wp2_with fail
      go_ret
      refine ⟨by rw [H.out]; simp [h1], rfl⟩
end
end Go.Proofs.Ytiolfnnkkflaiaa
