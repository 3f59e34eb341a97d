/- Frames: the body of one; what is told of it. -/
import Derived.Test.YtcahflddafdhfaaFr2
import Derived.Test.YtcahflddafdhfaaKeepQ
open Go.RowKit
namespace Go.Proofs.Ytcahflddafdhfaa

section
variable {w : World} {g : Nat}
theorem set11 {cs : Array Value} {ty : TypeId} (h : w.heap[g]? = some (.cells cs ty (0, 0))) (hsz : ∃ u0 u1 u2 u3 u4 u5 u6 u7 u8 u9 u10, cs = #[u0, u1, u2, u3, u4, u5, u6, u7, u8, u9, u10]) (v0 v1 v2 v3 v4 v5 v6 v7 v8 v9 v10 : Value) :
    (((((((((((w.setCell ⟨g, 0, none⟩ v0).setCell ⟨g, 1, none⟩ v1).setCell ⟨g, 2, none⟩ v2).setCell ⟨g, 3, none⟩ v3).setCell ⟨g, 4, none⟩ v4).setCell ⟨g, 5, none⟩ v5).setCell ⟨g, 6, none⟩ v6).setCell ⟨g, 7, none⟩ v7).setCell ⟨g, 8, none⟩ v8).setCell ⟨g, 9, none⟩ v9).setCell ⟨g, 10, none⟩ v10).heap[g]? = some (.cells #[v0, v1, v2, v3, v4, v5, v6, v7, v8, v9, v10] ty (0, 0)) ∧ Chg (fun i => i = g) w (((((((((((w.setCell ⟨g, 0, none⟩ v0).setCell ⟨g, 1, none⟩ v1).setCell ⟨g, 2, none⟩ v2).setCell ⟨g, 3, none⟩ v3).setCell ⟨g, 4, none⟩ v4).setCell ⟨g, 5, none⟩ v5).setCell ⟨g, 6, none⟩ v6).setCell ⟨g, 7, none⟩ v7).setCell ⟨g, 8, none⟩ v8).setCell ⟨g, 9, none⟩ v9).setCell ⟨g, 10, none⟩ v10) := by
  obtain ⟨u0, u1, u2, u3, u4, u5, u6, u7, u8, u9, u10, rfl⟩ := hsz
  have s0 := heap_setCell_same w g 0 _ _ v0 h
  simp only [List.setIfInBounds_toArray, List.set_cons_zero, List.set_cons_succ] at s0
  have s1 := heap_setCell_same _ g 1 _ _ v1 s0
  simp only [List.setIfInBounds_toArray, List.set_cons_zero, List.set_cons_succ] at s1
  have s2 := heap_setCell_same _ g 2 _ _ v2 s1
  simp only [List.setIfInBounds_toArray, List.set_cons_zero, List.set_cons_succ] at s2
  have s3 := heap_setCell_same _ g 3 _ _ v3 s2
  simp only [List.setIfInBounds_toArray, List.set_cons_zero, List.set_cons_succ] at s3
  have s4 := heap_setCell_same _ g 4 _ _ v4 s3
  simp only [List.setIfInBounds_toArray, List.set_cons_zero, List.set_cons_succ] at s4
  have s5 := heap_setCell_same _ g 5 _ _ v5 s4
  simp only [List.setIfInBounds_toArray, List.set_cons_zero, List.set_cons_succ] at s5
  have s6 := heap_setCell_same _ g 6 _ _ v6 s5
  simp only [List.setIfInBounds_toArray, List.set_cons_zero, List.set_cons_succ] at s6
  have s7 := heap_setCell_same _ g 7 _ _ v7 s6
  simp only [List.setIfInBounds_toArray, List.set_cons_zero, List.set_cons_succ] at s7
  have s8 := heap_setCell_same _ g 8 _ _ v8 s7
  simp only [List.setIfInBounds_toArray, List.set_cons_zero, List.set_cons_succ] at s8
  have s9 := heap_setCell_same _ g 9 _ _ v9 s8
  simp only [List.setIfInBounds_toArray, List.set_cons_zero, List.set_cons_succ] at s9
  have s10 := heap_setCell_same _ g 10 _ _ v10 s9
  simp only [List.setIfInBounds_toArray, List.set_cons_zero, List.set_cons_succ] at s10
  have c0 := (Chg.refl (fun i => i = g) w).set g 0 v0 (fun _ => rfl)
  have c1 := c0.set g 1 v1 (fun _ => rfl)
  have c2 := c1.set g 2 v2 (fun _ => rfl)
  have c3 := c2.set g 3 v3 (fun _ => rfl)
  have c4 := c3.set g 4 v4 (fun _ => rfl)
  have c5 := c4.set g 5 v5 (fun _ => rfl)
  have c6 := c5.set g 6 v6 (fun _ => rfl)
  have c7 := c6.set g 7 v7 (fun _ => rfl)
  have c8 := c7.set g 8 v8 (fun _ => rfl)
  have c9 := c8.set g 9 v9 (fun _ => rfl)
  have c10 := c9.set g 10 v10 (fun _ => rfl)
  exact ⟨s10, c10⟩
end

/-! ### what it is -/
def rightD (s : ByteArray) : Bool := decide (s.size = 32)
def bodyL (x : Fr) : List UInt8 :=
  if x.k = 1 then be 4 x.v ++ be 2 (u64n x.n) ++ be 1 (u64n x.f) ++ bl x.d
  else if x.k = 2 then be 1 (u64n x.c)
  else if x.k = 3 ∨ x.k = 5 then be 2 (u64n x.i)
  else if x.k = 4 then be 2 (u64n x.i) ++ be 1 (u64n x.l.length) ++ x.l.flatMap bl
  else if x.k = 6 then be 2 (u64n x.i) ++ bl x.d
  else []
def bodyW (x : Fr) : Bool :=
  if x.k = 1 then numBad 2 x.n || numBad 1 x.f || !rightD x.d
  else if x.k = 2 then numBad 1 x.c
  else if x.k = 3 ∨ x.k = 5 then numBad 2 x.i
  else if x.k = 4 then numBad 2 x.i || numBad 1 x.l.length || decide (4 < x.l.length) || x.l.any (fun s => !rightD s)
  else if x.k = 6 then numBad 2 x.i || !rightS x.d
  else decide (x.k ≠ 7)
def told (x : Fr) : Fr :=
  if x.k = 1 then ⟨x.k, x.s, x.e, x.q, x.v, x.n, x.f, 0, 0, x.d, []⟩
  else if x.k = 2 then ⟨x.k, x.s, x.e, x.q, 0, 0, 0, 0, x.c, ⟨#[]⟩, []⟩
  else if x.k = 3 ∨ x.k = 5 then ⟨x.k, x.s, x.e, x.q, 0, 0, 0, x.i, 0, ⟨#[]⟩, []⟩
  else if x.k = 4 then ⟨x.k, x.s, x.e, x.q, 0, 0, 0, x.i, 0, ⟨#[]⟩, x.l⟩
  else if x.k = 6 then ⟨x.k, x.s, x.e, x.q, 0, 0, 0, x.i, 0, x.d, []⟩
  else ⟨x.k, x.s, x.e, x.q, 0, 0, 0, 0, 0, ⟨#[]⟩, []⟩
def tA (x : Fr) (A : Option Addr) : Option Addr := if x.k = 4 then A else none
def tC (x : Fr) (c : Nat) : Nat := if x.k = 4 then c else 0

/-- Its numbers are of their kinds. -/
def FrOk (x : Fr) : Prop := x.s < 18446744073709551616 ∧ x.e < 18446744073709551616 ∧ x.q < 4294967296 ∧ x.v < 4294967296
theorem wrap64_nat {n : Nat} (h : n < 18446744073709551616) : IntKind.u64.wrap (n : Int) = (n : Int) := by
  unfold IntKind.wrap
  simp [IntKind.signed, IntKind.bits]
  omega
theorem FrOk.v64 {x : Fr} (h : FrOk x) : x.v < 18446744073709551616 := by unfold FrOk at h; omega
theorem FrOk.q64 {x : Fr} (h : FrOk x) : x.q < 18446744073709551616 := by unfold FrOk at h; omega
/-- The writer's bytes were put anew. -/
theorem IsW.put {w w1 : World} {g : Nat} {A A' : Option Addr} {c c' : Nat} {L M : List UInt8} {b : Bool} (h : IsW w g A c L b) (ho : OwnB w1 w.heap.size A' c' (L ++ M)) (hb : Below w.heap.size w w1) :
    WPost w g A (L ++ M) b (w1.setCell ⟨g, 0, none⟩ (.slice A' (L ++ M).length c')) ∧ w1.cell? ⟨g, 0, none⟩ = some (.slice A L.length c) ∧ w1.frozen? ⟨g, 0, none⟩ = false := by
  obtain ⟨hr, hge⟩ := BRow.of_own ho
  have hW1 := h.below hb
  have hgl := h.lt
  have hcells := cells2 hW1.cell
  exact ⟨⟨A', c', hW1.setL hr (fun e => by have := hge g e; omega), (Chg.of_below (F := WF g A) hb).trans ((Chg.refl (fun i => i = g) w1).set g 0 _ (fun _ => rfl)) (fun i _ e => .inl e), fun k hk => .inr (hge k hk)⟩, hcells.1, hcells.2.2.1⟩

/-- In the midst of a body: the writer; the blocks of the frame, of what is handed back, of what is told. -/
structure BA (w : World) (g : Nat) (A0 : Option Addr) (x : Fr) (A : Option Addr) (c : Nat) (w' : World) (A' : Option Addr) (c' : Nat) (L : List UInt8) (b : Bool) (cs : Array Value) : Prop where
  wr : IsW w' g A' c' L b
  chg : Chg (WF g A0) w w'
  new : ∀ k, blk A' = some k → blk A0 = some k ∨ w.heap.size + 2 < k
  g0 : w'.heap[w.heap.size]? = some (.cells (x.cells A c) 41 (0, 0))
  g1 : ∃ u0 u1 u2 u3 u4 u5 u6 u7 u8 u9 u10, w'.heap[w.heap.size + 1]? = some (.cells #[u0, u1, u2, u3, u4, u5, u6, u7, u8, u9, u10] 41 (0, 0))
  g2 : w'.heap[w.heap.size + 1 + 1]? = some (.cells cs 41 (0, 0))
section
variable {w w1 w2 : World} {g : Nat} {A0 A A1 : Option Addr} {x : Fr} {c c1 : Nat} {L L2 : List UInt8} {b b2 : Bool} {cs : Array Value}
theorem BA.size (h : BA w g A0 x A c w1 A1 c1 L b cs) : w.heap.size + 2 < w1.heap.size := by have := (Array.getElem?_eq_some_iff.1 h.g2).1; omega
theorem BA.away (h0 : IsW w g A0 c1 L b) : g < w.heap.size ∧ ∀ k, blk A0 = some k → k < w.heap.size := ⟨h0.lt, fun k hk => h0.row.lt hk⟩
/-- The writer took a step. -/
theorem BA.step (h : BA w g A0 x A c w1 A1 c1 L b cs) (hg : g < w.heap.size) (hA : ∀ k, blk A0 = some k → k < w.heap.size) (hp : WPost w1 g A1 L2 b2 w2) : ∃ A2 c2, BA w g A0 x A c w2 A2 c2 L2 b2 cs := by
  obtain ⟨A2, c2, h2, hc, hk⟩ := hp
  have hs := h.size
  have hno : ∀ j, j ≤ 2 → ¬ WF g A1 (w.heap.size + j) := fun j hj e => by
    rcases e with e | e
    · omega
    · rcases h.new _ e with h1 | h1
      · have := hA _ h1; omega
      · omega
  refine ⟨A2, c2, h2, h.chg.trans hc (fun i hi hf => ?_), fun k e => ?_, (hc.block _ (by omega) (hno 0 (by omega))).trans h.g0, ?_, (hc.block _ (by omega) (hno 2 (by omega))).trans h.g2⟩
  · rcases hf with hf | hf
    · exact .inl hf
    · rcases h.new i hf with h3 | h3
      · exact .inr h3
      · omega
  · rcases hk k e with h3 | h3
    · exact h.new k h3
    · right; omega
  · obtain ⟨u0, u1, u2, u3, u4, u5, u6, u7, u8, u9, u10, hu⟩ := h.g1
    exact ⟨u0, u1, u2, u3, u4, u5, u6, u7, u8, u9, u10, (hc.block _ (by omega) (hno 1 (by omega))).trans hu⟩
/-- Nothing happened but in new blocks. -/
theorem BA.below (h : BA w g A0 x A c w1 A1 c1 L b cs) (hb : Below w1.heap.size w1 w2) : BA w g A0 x A c w2 A1 c1 L b cs := by
  have hs := h.size
  obtain ⟨u0, u1, u2, u3, u4, u5, u6, u7, u8, u9, u10, hu⟩ := h.g1
  exact ⟨h.wr.below hb, h.chg.trans (G := fun _ => False) (.of_below hb) (fun _ _ f => f.elim), h.new, (hb.block _ (by omega)).trans h.g0, ⟨u0, u1, u2, u3, u4, u5, u6, u7, u8, u9, u10, (hb.block _ (by omega)).trans hu⟩, (hb.block _ (by omega)).trans h.g2⟩
/-- One cell of what is told. -/
theorem BA.set (h : BA w g A0 x A c w1 A1 c1 L b cs) (hg : g < w.heap.size) (hA : ∀ k, blk A0 = some k → k < w.heap.size) (j : Nat) (v : Value) : BA w g A0 x A c (w1.setCell ⟨w.heap.size + 1 + 1, j, none⟩ v) A1 c1 L b (cs.setIfInBounds j v) := by
  have hs := h.size
  have hc : Chg (fun i => i = w.heap.size + 1 + 1) w1 (w1.setCell ⟨w.heap.size + 1 + 1, j, none⟩ v) := (Chg.refl _ _).set _ j v (fun _ => rfl)
  obtain ⟨u0, u1, u2, u3, u4, u5, u6, u7, u8, u9, u10, hu⟩ := h.g1
  refine ⟨h.wr.chg hc (fun i hi e => ?_), h.chg.trans hc (fun i hi e => by omega), h.new, (hc.block _ (by omega) (by omega)).trans h.g0, ⟨u0, u1, u2, u3, u4, u5, u6, u7, u8, u9, u10, (hc.block _ (by omega) (by omega)).trans hu⟩, heap_setCell_same w1 _ j _ _ v h.g2⟩
  rcases hi with hi | hi
  · omega
  · rcases h.new _ hi with h1 | h1
    · have := hA _ h1; omega
    · omega
/-- The end: what is told is handed back. -/
theorem BA.fin (h : BA w g A0 x A c w1 A1 c1 L b cs) (hg : g < w.heap.size) (hA : ∀ k, blk A0 = some k → k < w.heap.size) (hc : Chg (fun i => i = w.heap.size + 1) w1 w2) : WPost w g A0 L b w2 := by
  have hs := h.size
  refine ⟨A1, c1, h.wr.chg hc (fun i hi e => ?_), h.chg.trans hc (fun i hi e => by omega), fun k hk => (h.new k hk).imp id (fun e => by omega)⟩
  rcases hi with hi | hi
  · omega
  · rcases h.new _ hi with h1 | h1
    · have := hA _ h1; omega
    · omega
end
theorem BA.start {w : World} {g : Nat} {A0 : Option Addr} {c0 : Nat} {L : List UInt8} {b : Bool} (h : IsW w g A0 c0 L b) (x : Fr) (A : Option Addr) (c : Nat) (cs1 cs2 : Array Value) (h1 : ∃ u0 u1 u2 u3 u4 u5 u6 u7 u8 u9 u10, cs1 = #[u0, u1, u2, u3, u4, u5, u6, u7, u8, u9, u10]) :
    BA w g A0 x A c (((w.alloc (.cells (x.cells A c) 41)).alloc (.cells cs1 41)).alloc (.cells cs2 41)) A0 c0 L b cs2 := by
  obtain ⟨hb, g0, g1, g2, _⟩ := alloc3 w (x.cells A c) 41 cs1 41 cs2 41
  obtain ⟨u0, u1, u2, u3, u4, u5, u6, u7, u8, u9, u10, rfl⟩ := h1
  exact ⟨h.below hb, .of_below hb, fun k hk => .inl hk, g0, ⟨u0, u1, u2, u3, u4, u5, u6, u7, u8, u9, u10, g1⟩, g2⟩
end Go.Proofs.Ytcahflddafdhfaa
