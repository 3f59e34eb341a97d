import Derived.Test.YtebcginnnjigjaaC32
import Derived.Test.YtebcginnnjigjaaC3
import Derived.Test.YtebcginnnjigjaaC8
import Derived.Test.YtebcginnnjigjaaC23
import Derived.Test.YtebcginnnjigjaaC25
section
/- What is on a net, counted. -/
open Go.RowKit Go.Shelf
namespace Go.Proofs.Ytebcginnnjigjaa

/-- One counter is raised. -/
def bump (cv : List Int) (j : Nat) (d : Int) : List Int := cv.set j (wrap64 (cv.getD j 0 + d))
theorem bump_len (cv : List Int) (j : Nat) (d : Int) : (bump cv j d).length = cv.length := List.length_set
/-- Twelve counters: to whom (2), of which kind (8), none, bytes. -/
def ofStep (cv : List Int) (p : Int × ByteArray) : List Int :=
  if getE (bl p.2) = 0 then bump (bump (bump cv p.1.toNat 1) 11 p.2.size) (2 + (getX (bl p.2)).k.toNat) 1 else bump (bump (bump cv p.1.toNat 1) 11 p.2.size) 10 1
theorem ofStep_len (cv : List Int) (p : Int × ByteArray) : (ofStep cv p).length = cv.length := by
  unfold ofStep
  split <;> rw [bump_len, bump_len, bump_len]
def ofZero : List Int := List.replicate 12 0
def ofL (ps : List (Int × ByteArray)) : List Int := ps.foldl ofStep ofZero
theorem ofL_snoc (ps : List (Int × ByteArray)) (p : Int × ByteArray) : ofL (ps ++ [p]) = ofStep (ofL ps) p := by unfold ofL; rw [List.foldl_append]; rfl
theorem foldStep_len (ps : List (Int × ByteArray)) : ∀ cv : List Int, (ps.foldl ofStep cv).length = cv.length := by
  induction ps with
  | nil => intro cv; rfl
  | cons p ps ih => intro cv; rw [List.foldl_cons, ih, ofStep_len]
theorem ofL_len (ps : List (Int × ByteArray)) : (ofL ps).length = 12 := by unfold ofL; rw [foldStep_len]; rfl
/-- The counters' cells. -/
def cvC (cv : List Int) : Array Value := (cv.map (Value.int .i64)).toArray
theorem cvC_get {cv : List Int} {j : Nat} (h : j < cv.length) : (cvC cv)[j]? = some (.int .i64 (cv.getD j 0)) := by
  unfold cvC
  simp [h]
theorem cvC_set (cv : List Int) (j : Nat) (x : Int) : (cvC cv).setIfInBounds j (.int .i64 x) = cvC (cv.set j x) := by
  unfold cvC
  simp [List.map_set]
theorem cv_cell {w : World} {g : Nat} {cv : List Int} {t : TypeId} (h : w.heap[g]? = some (.cells (cvC cv) t (0, 0))) {j : Nat} (hj : j < cv.length) : w.cell? ⟨g, j, none⟩ = some (.int .i64 (cv.getD j 0)) ∧ w.frozen? ⟨g, j, none⟩ = false :=
  cell_at h j (cvC_get hj)
theorem cv_set {w : World} {g : Nat} {cv : List Int} {t : TypeId} (h : w.heap[g]? = some (.cells (cvC cv) t (0, 0))) (j : Nat) (x : Int) : (w.setCell ⟨g, j, none⟩ (.int .i64 x)).heap[g]? = some (.cells (cvC (cv.set j x)) t (0, 0)) := by
  rw [← cvC_set]
  exact heap_setCell_same w g j _ _ _ h
/-- Packets that a net may hold: to one of two, not too long. -/
def PkOk (ps : List (Int × ByteArray)) : Prop := ∀ p ∈ ps, (p.1 = 0 ∨ p.1 = 1) ∧ p.2.size ≤ 100000
theorem getX_kind {l : List UInt8} (h : getE l = 0) : ∃ n : Nat, (getX l).k = (n : Int) ∧ n < 8 := by
  have h1 := (put_get h).1
  have h2 : putOk (getX l) = true := by
    unfold putE at h1
    split at h1
    · assumption
    · cases h1
  unfold putOk at h2
  rw [Bool.and_eq_true, Bool.not_eq_true'] at h2
  have h3 := bodyW_kinds h2.1
  exact ⟨(getX l).k.toNat, by omega, by omega⟩

/-- Between two packets: the counters' block, the result's. -/
structure CnI (w : World) (cs : Array Value) (W : World) : Prop where
  b : Below w.heap.size w W
  lt : w.heap.size + 2 < W.heap.size
  res : ∃ us : List Int, us.length = 12 ∧ W.heap[w.heap.size]? = some (.cells (cvC us) 33 (0, 0))
  row : W.heap[w.heap.size + 1]? = some (.cells cs 33 (0, 0))
section
variable {w : World} {cs : Array Value} {W : World}
theorem CnI.ab (h : CnI w cs W) {W' : World} (hab : AbC W W') : CnI w cs W' := by
  obtain ⟨us, h1, h2⟩ := h.res
  exact ⟨h.b.trans (hab.mono h.b.size), Nat.lt_of_lt_of_le h.lt hab.size, ⟨us, h1, (hab.block _ (Array.getElem?_eq_some_iff.1 h2).1).trans h2⟩, (hab.block _ (Array.getElem?_eq_some_iff.1 h.row).1).trans h.row⟩
theorem CnI.obj (h : CnI w cs W) {l : Nat} {o : Obj} (hl : w.heap.size + 2 < l) (ho : W.heap[l]? = some o) (o' : Obj) : CnI w cs (W.putObj l o') := by
  obtain ⟨us, h1, h2⟩ := h.res
  exact ⟨below_putObj h.b (by omega) (Array.getElem?_eq_some_iff.1 ho).1 o', by rw [World.putObj_size]; exact h.lt, ⟨us, h1, (World.putObj_heap_other (by omega)).trans h2⟩, (World.putObj_heap_other (by omega)).trans h.row⟩
theorem CnI.alloc (h : CnI w cs W) (o : Obj) : CnI w cs (W.alloc o) := h.ab ((Below.refl _ _).alloc (Nat.le_refl _) o)
end
theorem list12 {α : Type} {l : List α} (h : l.length = 12) : ∃ v0 v1 v2 v3 v4 v5 v6 v7 v8 v9 v10 v11, l = [v0, v1, v2, v3, v4, v5, v6, v7, v8, v9, v10, v11] := by
  match l, h with
  | [v0, v1, v2, v3, v4, v5, v6, v7, v8, v9, v10, v11], _ => exact ⟨_, _, _, _, _, _, _, _, _, _, _, _, rfl⟩
section
variable {w : World} {g : Nat} {t : TypeId}
theorem cells12 {v0 v1 v2 v3 v4 v5 v6 v7 v8 v9 v10 v11 : Value} (h : w.heap[g]? = some (.cells #[v0, v1, v2, v3, v4, v5, v6, v7, v8, v9, v10, v11] t (0, 0))) :
    (w.cell? ⟨g, 0, none⟩ = some v0 ∧ w.cell? ⟨g, 1, none⟩ = some v1 ∧ w.cell? ⟨g, 2, none⟩ = some v2 ∧ w.cell? ⟨g, 3, none⟩ = some v3 ∧ w.cell? ⟨g, 4, none⟩ = some v4 ∧ w.cell? ⟨g, 5, none⟩ = some v5 ∧ w.cell? ⟨g, 6, none⟩ = some v6 ∧ w.cell? ⟨g, 7, none⟩ = some v7 ∧ w.cell? ⟨g, 8, none⟩ = some v8 ∧ w.cell? ⟨g, 9, none⟩ = some v9 ∧ w.cell? ⟨g, 10, none⟩ = some v10 ∧ w.cell? ⟨g, 11, none⟩ = some v11) ∧ w.frozen? ⟨g, 0, none⟩ = false ∧ w.frozen? ⟨g, 1, none⟩ = false ∧ w.frozen? ⟨g, 2, none⟩ = false ∧ w.frozen? ⟨g, 3, none⟩ = false ∧ w.frozen? ⟨g, 4, none⟩ = false ∧ w.frozen? ⟨g, 5, none⟩ = false ∧ w.frozen? ⟨g, 6, none⟩ = false ∧ w.frozen? ⟨g, 7, none⟩ = false ∧ w.frozen? ⟨g, 8, none⟩ = false ∧ w.frozen? ⟨g, 9, none⟩ = false ∧ w.frozen? ⟨g, 10, none⟩ = false ∧ w.frozen? ⟨g, 11, none⟩ = false := by
  refine ⟨⟨?_, ?_, ?_, ?_, ?_, ?_, ?_, ?_, ?_, ?_, ?_, ?_⟩, ?_, ?_, ?_, ?_, ?_, ?_, ?_, ?_, ?_, ?_, ?_, ?_⟩ <;> first | exact frozen_of_row _ _ _ _ _ h | (rw [cell_of_row _ _ _ _ _ _ h]; rfl)
theorem set12 {u0 u1 u2 u3 u4 u5 u6 u7 u8 u9 u10 u11 : Value} (h : w.heap[g]? = some (.cells #[u0, u1, u2, u3, u4, u5, u6, u7, u8, u9, u10, u11] t (0, 0))) (v0 v1 v2 v3 v4 v5 v6 v7 v8 v9 v10 v11 : Value) :
    ((((((((((((w.setCell ⟨g, 0, none⟩ v0).setCell ⟨g, 1, none⟩ v1).setCell ⟨g, 2, none⟩ v2).setCell ⟨g, 3, none⟩ v3).setCell ⟨g, 4, none⟩ v4).setCell ⟨g, 5, none⟩ v5).setCell ⟨g, 6, none⟩ v6).setCell ⟨g, 7, none⟩ v7).setCell ⟨g, 8, none⟩ v8).setCell ⟨g, 9, none⟩ v9).setCell ⟨g, 10, none⟩ v10).setCell ⟨g, 11, none⟩ v11).heap[g]? = some (.cells #[v0, v1, v2, v3, v4, v5, v6, v7, v8, v9, v10, v11] t (0, 0)) ∧ Chg (fun i => i = g) w ((((((((((((w.setCell ⟨g, 0, none⟩ v0).setCell ⟨g, 1, none⟩ v1).setCell ⟨g, 2, none⟩ v2).setCell ⟨g, 3, none⟩ v3).setCell ⟨g, 4, none⟩ v4).setCell ⟨g, 5, none⟩ v5).setCell ⟨g, 6, none⟩ v6).setCell ⟨g, 7, none⟩ v7).setCell ⟨g, 8, none⟩ v8).setCell ⟨g, 9, none⟩ v9).setCell ⟨g, 10, none⟩ v10).setCell ⟨g, 11, none⟩ v11) := by
  have s0 := heap_setCell_same _ g 0 _ _ v0 h
  simp only [List.setIfInBounds_toArray, List.set_cons_zero] at s0
  have d0 := (Chg.refl (fun i => i = g) w).set g 0 v0 (fun _ => rfl)
  have s1 := heap_setCell_same _ g 1 _ _ v1 s0
  simp only [List.setIfInBounds_toArray, List.set_cons_zero, List.set_cons_succ] at s1
  have d1 := d0.set g 1 v1 (fun _ => rfl)
  have s2 := heap_setCell_same _ g 2 _ _ v2 s1
  simp only [List.setIfInBounds_toArray, List.set_cons_zero, List.set_cons_succ] at s2
  have d2 := d1.set g 2 v2 (fun _ => rfl)
  have s3 := heap_setCell_same _ g 3 _ _ v3 s2
  simp only [List.setIfInBounds_toArray, List.set_cons_zero, List.set_cons_succ] at s3
  have d3 := d2.set g 3 v3 (fun _ => rfl)
  have s4 := heap_setCell_same _ g 4 _ _ v4 s3
  simp only [List.setIfInBounds_toArray, List.set_cons_zero, List.set_cons_succ] at s4
  have d4 := d3.set g 4 v4 (fun _ => rfl)
  have s5 := heap_setCell_same _ g 5 _ _ v5 s4
  simp only [List.setIfInBounds_toArray, List.set_cons_zero, List.set_cons_succ] at s5
  have d5 := d4.set g 5 v5 (fun _ => rfl)
  have s6 := heap_setCell_same _ g 6 _ _ v6 s5
  simp only [List.setIfInBounds_toArray, List.set_cons_zero, List.set_cons_succ] at s6
  have d6 := d5.set g 6 v6 (fun _ => rfl)
  have s7 := heap_setCell_same _ g 7 _ _ v7 s6
  simp only [List.setIfInBounds_toArray, List.set_cons_zero, List.set_cons_succ] at s7
  have d7 := d6.set g 7 v7 (fun _ => rfl)
  have s8 := heap_setCell_same _ g 8 _ _ v8 s7
  simp only [List.setIfInBounds_toArray, List.set_cons_zero, List.set_cons_succ] at s8
  have d8 := d7.set g 8 v8 (fun _ => rfl)
  have s9 := heap_setCell_same _ g 9 _ _ v9 s8
  simp only [List.setIfInBounds_toArray, List.set_cons_zero, List.set_cons_succ] at s9
  have d9 := d8.set g 9 v9 (fun _ => rfl)
  have s10 := heap_setCell_same _ g 10 _ _ v10 s9
  simp only [List.setIfInBounds_toArray, List.set_cons_zero, List.set_cons_succ] at s10
  have d10 := d9.set g 10 v10 (fun _ => rfl)
  have s11 := heap_setCell_same _ g 11 _ _ v11 s10
  simp only [List.setIfInBounds_toArray, List.set_cons_zero, List.set_cons_succ] at s11
  have d11 := d10.set g 11 v11 (fun _ => rfl)
  exact ⟨s11, d11⟩
end
/-- .. as it is laid. -/
structure CnI2 (w : World) (cs : Array Value) (W : World) : Prop where
  b : Below w.heap.size w W
  sz : W.heap.size = w.heap.size + 2
  res : ∃ us : List Int, us.length = 12 ∧ W.heap[w.heap.size]? = some (.cells (cvC us) 33 (0, 0))
  row : W.heap[w.heap.size + 1]? = some (.cells cs 33 (0, 0))
theorem CnI2.up {w : World} {cs : Array Value} {W : World} (h : CnI2 w cs W) (q : Option Addr) : CnI w cs (W.alloc (.cells #[.pointer q] 25)) := by
  obtain ⟨us, h1, h2⟩ := h.res
  have hs := h.sz
  exact ⟨h.b.alloc h.b.size _, by rw [size_alloc]; omega, ⟨us, h1, (heap_alloc_old _ _ (by omega)).trans h2⟩, (heap_alloc_old _ _ (by omega)).trans h.row⟩
theorem CnI.bump {w : World} {cv : List Int} {W : World} (h : CnI w (cvC cv) W) (j : Nat) (d : Int) : CnI w (cvC (bump cv j d)) (W.setCell ⟨w.heap.size + 1, j, none⟩ (.int .i64 (wrap64 (cv.getD j 0 + d)))) := by
  obtain ⟨us, h1, h2⟩ := h.res
  exact ⟨h.b.setCell (p := ⟨w.heap.size + 1, j, none⟩) (Nat.le_succ _) _, by rw [size_set]; exact h.lt, ⟨us, h1, (heap_setCell_other _ ⟨w.heap.size + 1, j, none⟩ _ _ (by simp)).trans h2⟩, cv_set h.row j _⟩
/-- What a step of a round keeps. -/
structure RdK (w : World) (W W' : World) : Prop where
  size : W.heap.size ≤ W'.heap.size
  chg : ∀ k, k < W.heap.size → k ≠ w.heap.size + 1 → W'.heap[k]? = W.heap[k]?
  cells : ∀ (k : Nat) (o : Obj), W.heap[k]? = some o → o.isCells = false → W'.heap[k]? = some o
theorem RdK.refl (w W : World) : RdK w W W := ⟨Nat.le_refl _, fun _ _ _ => rfl, fun _ _ h _ => h⟩
theorem RdK.bump {w W W' : World} (h : RdK w W W') (j : Nat) (v : Value) : RdK w W (W'.setCell ⟨w.heap.size + 1, j, none⟩ v) :=
  ⟨by rw [size_set]; exact h.size, fun k hk hn => (heap_setCell_other _ ⟨w.heap.size + 1, j, none⟩ _ _ hn).trans (h.chg k hk hn), fun k o hk ho => (KeepsOthers.setCell _ _ _).same _ _ (h.cells k o hk ho) ho⟩
theorem RdK.below {w W W' W2 : World} (h : RdK w W W') (hb : Below W'.heap.size W' W2) : RdK w W W2 :=
  ⟨Nat.le_trans h.size hb.size, fun k hk hn => (hb.block k (by have := h.size; omega)).trans (h.chg k hk hn), fun k o hk ho => (hb.block k (Array.getElem?_eq_some_iff.1 (h.cells k o hk ho)).1).trans (h.cells k o hk ho)⟩
theorem RdK.post {w W W' : World} (h : RdK w W W') (B : Nat) (hW : w.heap.size + 2 < W.heap.size) : KeepsFrom B W W' ∧ KpC w.heap.size (w.heap.size + 2) W W' :=
  ⟨⟨h.size, fun k o _ hk ho => h.cells k o hk ho⟩, fun k hk => h.chg k (by omega) (by omega), h.chg _ hW (by omega)⟩
set_option maxHeartbeats 4000000 in
set_option maxRecDepth 100000 in
theorem of_seq (q : Option Addr) (ps : List (Int × ByteArray)) (w : World) (hp : PkOk ps)
    (hseq : ∀ w0 : World, Below w.heap.size w w0 → w.heap.size + 2 < w0.heap.size → w0.heap[w.heap.size + 2]? = some (.cells #[.pointer q] 25 (0, 0)) → SeqR Try.prog 41 #[.pointer (some ⟨w.heap.size + 2, 0, none⟩)] (fun p : Int × ByteArray => #[pv p]) (KpC w.heap.size (w.heap.size + 2)) AbC ps w0) :
    Calls Try.prog 8 #[.pointer q] w fun e w' => e = .returned (.agg (cvC (ofL ps))) ∧ Below w.heap.size w w' := by
  have Hp := Lib.hid hp
  obtain ⟨hb2, hg0, hg1, hs2⟩ := alloc2 w (cvC ofZero) 33 (cvC ofZero) 33
  have HSq := Lib.hid hseq
  clear hp hseq
  have ez : cvC ofZero = #[.int .i64 0, .int .i64 0, .int .i64 0, .int .i64 0, .int .i64 0, .int .i64 0, .int .i64 0, .int .i64 0, .int .i64 0, .int .i64 0, .int .i64 0, .int .i64 0] := rfl
  have HI : Hid (CnI2 w (cvC ofZero) ((w.alloc (.cells (cvC ofZero) 33)).alloc (.cells (cvC ofZero) 33))) := Lib.hid ⟨hb2, hs2, ⟨ofZero, rfl, hg0⟩, hg1⟩
  rw [ez] at HI
  clear hb2 hg0 hg1 hs2
  refine calls_of_marks Try.func8 rfl ?_
  simp only [Try.ntmps8, List.size_toArray, List.length_cons, List.length_nil, Nat.reduceAdd, Nat.reduceSub, Array.replicate_succ, Array.replicate_zero, List.push_toArray, List.append_toArray, List.nil_append, List.cons_append]
  go_wp2_with fail
  generalize (w.alloc (.cells #[.int .i64 0, .int .i64 0, .int .i64 0, .int .i64 0, .int .i64 0, .int .i64 0, .int .i64 0, .int .i64 0, .int .i64 0, .int .i64 0, .int .i64 0, .int .i64 0] 33)).alloc (.cells #[.int .i64 0, .int .i64 0, .int .i64 0, .int .i64 0, .int .i64 0, .int .i64 0, .int .i64 0, .int .i64 0, .int .i64 0, .int .i64 0, .int .i64 0, .int .i64 0] 33) = w2 at HI ⊢
  rw [← ez] at HI
  clear ez
  obtain ⟨hb3, hg3, hs3⟩ := alloc1 w2 #[.pointer q] 25
  have hs2 := HI.out.sz
  rw [hs2] at hg3 hs3
  have HSq := Lib.hid (HSq.out _ (HI.out.b.trans (hb3.mono (by omega))) (by omega) hg3)
  have HI3 : Hid (CnI w (cvC ofZero) (w2.alloc (.cells #[.pointer q] 25))) := Lib.hid (HI.out.up q)
  refine (packets_any q w2).mono ?_
  rintro e w3 ⟨rfl, hw3⟩
  rw [hw3] at HSq HI3 hs3
  rw [hs2]
  have HS3 := Lib.hid hs3
  clear hw3 hb3 hg3 hs3 hs2 HI
  go_wp2_with fail
  refine wp_rangeB (gf := 41) (lb := #[.pointer (some ⟨w.heap.size + 2, 0, none⟩)]) rfl (enters_of Try.func41 (by kernel_rfl) rfl) HSq.out (Below.refl _ _) (fun _ => rfl) KpC.trans (fun W l o o' hl _ _ => KpC.putObj W (by have := HS3.out; omega) (by have := HS3.out; omega) o')
    (fun _ _ h k o _ hk ho => h.others k o hk ho)
    (fun pre W => CnI w (cvC (ofL pre)) W)
    (fun pre A B h hab => h.ab hab)
    (fun pre W l o o' h hl ho hc => h.obj (by have := HS3.out; omega) ho o')
    (fun pre W o h _ => h.alloc o)
    (fun W o hW => ⟨fun k hk => heap_alloc_old _ _ (by have := HS3.out; omega), heap_alloc_old _ _ (by have := HS3.out; omega)⟩)
    HI3.out (fun x => .cells #[.int .i64 x.1, .string x.2] 51) (fun x b => { tmps := #[.pointer q, undef, .pointer (some ⟨w.heap.size, 0, none⟩), .pointer (some ⟨w.heap.size + 1, 0, none⟩), .pointer (some ⟨b, 0, none⟩), undef, undef, .pointer q, .func (.func 41) #[] #[.pointer (some ⟨w.heap.size + 2, 0, none⟩)], pv x, undef, undef, undef, undef, undef, undef, undef, undef, undef, undef, undef, undef, undef, undef, undef, undef, undef, undef, undef, undef, undef, undef, undef, undef, undef, undef, undef, undef, undef, undef, undef, undef, undef, undef, undef, undef, undef], defers := [] }) ?assign ?body ?done
  case assign =>
    intro l x W K hK
    refine wpIn_round_list (not_letsOut_then (fun ⟨_, _, h⟩ => h)) (by kernel_rfl) ?_
    unfold pv
    go_wp2_with fail
    exact hK
  case body =>
    rintro l b pre ⟨x, s⟩ W hi hpre hb hx
    have hpx := Hp.out (x, s) (hpre.subset (by simp))
    obtain ⟨n, rfl, hn⟩ : ∃ n : Nat, x = (n : Int) ∧ n < 2 := by
      rcases hpx.1 with h | h
      · exact ⟨0, by simpa using h, by omega⟩
      · exact ⟨1, by simpa using h, by omega⟩
    have HSz := Lib.hid hpx.2
    have HI := Lib.hid hi
    have HX := Lib.hid hx
    have HE := Lib.hid (show ofL (pre ++ [((n : Int), s)]) = _ from ofL_snoc pre ((n : Int), s))
    have HLn := Lib.hid (ofL_len pre)
    clear hpx hi hx hpre
    generalize ofL pre = cv at HI HE HLn
    apply wpIn_block
    have HK := Lib.hid (RdK.refl w W)
    have HW0 := Lib.hid HI.out.lt
    obtain ⟨c0, f0⟩ := cv_cell HI.out.row (j := n) (by rw [HLn.out]; omega)
    obtain ⟨b0, b1, _, _⟩ := cells2 HX.out
    simp only at b0 b1
    obtain ⟨v, hv⟩ : ∃ v, cv.getD n 0 = v := ⟨_, rfl⟩
    rw [hv] at c0
    have HI1 := HI.out.bump n 1
    rw [hv] at HI1
    have HI1 := Lib.hid HI1
    clear hv
    apply wpIn_seq_k
    intro K2 hK2
    refine wpIn_round_list (not_letsOut_then (not_letsOut_block postR_out)) (by kernel_rfl) ?_
    go_wp2_with fail
    have HK := Lib.hid (HK.out.bump n (.int .i64 (wrap64 (v + 1))))
    have HX := Lib.hid ((heap_setCell_other W ⟨w.heap.size + 1, n, none⟩ b (.int .i64 (wrap64 (v + 1))) (by show b ≠ w.heap.size + 1; have := HS3.out; omega)).trans HX.out)
    have HLn := Lib.hid ((bump_len cv n 1).trans HLn.out)
    have HI := HI1
    generalize hc1 : bump cv n 1 = cv1 at HI1 HI HLn
    have HC1 := Lib.hid hc1
    generalize hW1 : W.setCell ⟨w.heap.size + 1, n, none⟩ (.int .i64 (wrap64 (v + 1))) = W1 at HK HX HI ⊢
    clear hc1 hW1 c0 f0 b0 b1 HI1
    obtain ⟨c0, f0⟩ := cv_cell HI.out.row (j := 11) (by rw [HLn.out]; omega)
    obtain ⟨b0, b1, _, _⟩ := cells2 HX.out
    obtain ⟨v2, hv⟩ : ∃ v, cv1.getD 11 0 = v := ⟨_, rfl⟩
    rw [hv] at c0
    have HI1 := HI.out.bump 11 (s.size : Nat)
    rw [hv] at HI1
    have HI1 := Lib.hid HI1
    clear hv
    apply wpIn_seq_k
    intro K2 hK2
    refine wpIn_round_list (not_letsOut_then (not_letsOut_block postR_out)) (by kernel_rfl) ?_
    go_wp2_with fail
    have HK := Lib.hid (HK.out.bump 11 (.int .i64 (wrap64 (v2 + (s.size : Nat)))))
    have HX := Lib.hid ((heap_setCell_other W1 ⟨w.heap.size + 1, 11, none⟩ b (.int .i64 (wrap64 (v2 + (s.size : Nat)))) (by show b ≠ w.heap.size + 1; have := HS3.out; omega)).trans HX.out)
    have HLn := Lib.hid ((bump_len cv1 11 (s.size : Nat)).trans HLn.out)
    have HI := HI1
    generalize hc1 : bump cv1 11 (s.size : Nat) = cv2 at HI1 HI HLn
    have HC2 := Lib.hid hc1
    generalize hW1 : W1.setCell ⟨w.heap.size + 1, 11, none⟩ (.int .i64 (wrap64 (v2 + (s.size : Nat)))) = W2 at HK HX HI ⊢
    clear hc1 hW1 c0 f0 b0 b1 HI1
    obtain ⟨b0, b1, _, _⟩ := cells2 HX.out
    apply wpIn_seq_k
    intro K2 hK2
    refine wpIn_round_list (not_letsOut_then (not_letsOut_block postR_out)) (by kernel_rfl) ?_
    go_wp2_with (refine wpList_bytes_of rfl (.tmp 27) rfl s rfl ?_)
    intro A1 c1 W3 hr hc hb3
    have HG := Lib.hid (frGet_any W3 A1 c1 (bl s) hr (by rw [bl_length]; exact hc) (by rw [bl_length]; have := HSz.out; omega))
    have HK := Lib.hid (HK.out.below hb3)
    have HI := Lib.hid (HI.out.ab hb3)
    have HF := Lib.hid (show ofStep cv ((n : Int), s) = if getE (bl s) = 0 then bump cv2 (2 + (getX (bl s)).k.toNat) 1 else bump cv2 10 1 from by
      unfold ofStep; rw [Int.toNat_natCast, HC1.out, HC2.out])
    have HKi := Lib.hid (fun h : getE (bl s) = 0 => getX_kind h)
    generalize hx : getX (bl s) = x at HG HF HKi
    obtain ⟨m, hm⟩ : ∃ m, getE (bl s) = m := ⟨_, rfl⟩
    rw [hm] at HG HF HKi
    unfold Fr.cells at HG
    clear hx hm hr hc hb3 b0 b1 HX
    go_wp2_with fail
    refine HG.out.mono ?_
    rintro e W4 ⟨A4, c4, rfl, ho⟩
    have hb4 := ho.2.2
    obtain ⟨hb5, hg5, hs5⟩ := alloc1 W4 #[.int .i64 x.k, .int .u64 (x.s : Int), .int .u64 (x.e : Int), .int .u32 (x.q : Int), .int .u32 (x.v : Int), .int .i64 x.n, .int .i64 x.f, .int .i64 x.i, .int .i64 x.c, .string x.d, .slice A4 x.l.length c4] 58
    have HK := Lib.hid ((HK.out.below hb4).below hb5)
    have HI := Lib.hid ((HI.out.ab hb4).ab hb5)
    have HG5 := Lib.hid hg5
    clear ho hb4 hb5 hs5 hg5 HG
    go_wp2_with fail
    generalize W4.alloc (.cells #[.int .i64 x.k, .int .u64 (x.s : Int), .int .u64 (x.e : Int), .int .u32 (x.q : Int), .int .u32 (x.v : Int), .int .i64 x.n, .int .i64 x.f, .int .i64 x.i, .int .i64 x.c, .string x.d, .slice A4 x.l.length c4] 58) = W5 at HK HI HG5 ⊢
    apply wpIn_seq_k
    intro K3 hK3
    by_cases hm0 : m = 0
    · subst hm0
      obtain ⟨kn, hk, hkl⟩ := HKi.out rfl
      rw [if_pos rfl, hk, Int.toNat_natCast] at HF
      rw [hk] at HG5
      rw [show ((0 : Nat) : Int) = 0 from rfl]
      obtain ⟨d0, _⟩ := cells11 HG5.out
      obtain ⟨c0, f0⟩ := cv_cell HI.out.row (j := 2 + kn) (by rw [HLn.out]; omega)
      obtain ⟨v3, hv⟩ : ∃ v, cv2.getD (2 + kn) 0 = v := ⟨_, rfl⟩
      rw [hv] at c0
      have HI1 := HI.out.bump (2 + kn) 1
      rw [hv] at HI1
      have HI1 := Lib.hid HI1
      clear hv
      apply wpIn_seq_k
      intro K4 hK4
      refine wpIn_round_list (not_letsOut_then (not_letsOut_then (not_letsOut_block postR_out))) (by kernel_rfl) ?_
      go_wp2_with fail
      refine wpIn_cond (t := false) rfl ?_
      rw [if_neg (by decide)]
      refine wpIn_skip ?_
      refine hK3 _ _ ?_
      clear hK3 K3
      refine wpIn_round_list (not_letsOut_block postR_out) (by kernel_rfl) ?_
      go_wp2_with fail
      have hp := (HK.out.bump (2 + kn) (.int .i64 (wrap64 (v3 + 1)))).post w3.heap.size HW0.out
      refine ⟨hp.1, hp.2, ?_⟩
      show CnI w (cvC (ofL _)) _
      rw [HE.out, HF.out]
      exact HI1.out
    · rw [if_neg hm0] at HF
      have hb0 : ((m : Int) != 0) = true := by rw [bne_iff_ne]; omega
      obtain ⟨c0, f0⟩ := cv_cell HI.out.row (j := 10) (by rw [HLn.out]; omega)
      obtain ⟨v3, hv⟩ : ∃ v, cv2.getD 10 0 = v := ⟨_, rfl⟩
      rw [hv] at c0
      have HI1 := HI.out.bump 10 1
      rw [hv] at HI1
      have HI1 := Lib.hid HI1
      clear hv hm0 hK3
      apply wpIn_seq_k
      intro K4 hK4
      refine wpIn_round_list (not_letsOut_then (not_letsOut_then (not_letsOut_block postR_out))) (by kernel_rfl) ?_
      go_wp2_with fail
      refine wpIn_cond (t := true) rfl ?_
      rw [if_pos rfl]
      clear hb0
      apply wpIn_seq_k
      intro K4 hK4
      refine wpIn_round_list (not_letsOut_then (not_letsOut_then (not_letsOut_block postR_out))) (by kernel_rfl) ?_
      go_wp2_with fail
      refine wpIn_exit ?_
      have hp := (HK.out.bump 10 (.int .i64 (wrap64 (v3 + 1)))).post w3.heap.size HW0.out
      refine ⟨hp.1, hp.2, ?_⟩
      show CnI w (cvC (ofL _)) _
      rw [HE.out, HF.out]
      exact HI1.out
  case done =>
    rintro D W hD hi hK
    have hlen := ofL_len ps
    obtain ⟨us, hul, hus⟩ := hi.res
    have hrow := hi.row
    obtain ⟨v0, v1, v2, v3, v4, v5, v6, v7, v8, v9, v10, v11, hcv⟩ := list12 hlen
    rw [hcv] at hrow
    have HE := Lib.hid hcv
    obtain ⟨u0, u1, u2, u3, u4, u5, u6, u7, u8, u9, u10, u11, rfl⟩ := list12 hul
    have hrow : W.heap[w.heap.size + 1]? = some (.cells #[.int .i64 v0, .int .i64 v1, .int .i64 v2, .int .i64 v3, .int .i64 v4, .int .i64 v5, .int .i64 v6, .int .i64 v7, .int .i64 v8, .int .i64 v9, .int .i64 v10, .int .i64 v11] 33 (0, 0)) := hrow
    have hus : W.heap[w.heap.size]? = some (.cells #[.int .i64 u0, .int .i64 u1, .int .i64 u2, .int .i64 u3, .int .i64 u4, .int .i64 u5, .int .i64 u6, .int .i64 u7, .int .i64 u8, .int .i64 u9, .int .i64 u10, .int .i64 u11] 33 (0, 0)) := hus
    obtain ⟨⟨c0, c1, c2, c3, c4, c5, c6, c7, c8, c9, c10, c11⟩, _⟩ := cells12 hrow
    obtain ⟨⟨e0, e1, e2, e3, e4, e5, e6, e7, e8, e9, e10, e11⟩, f0, f1, f2, f3, f4, f5, f6, f7, f8, f9, f10, f11⟩ := cells12 hus
    have HS := Lib.hid (set12 hus (.int .i64 v0) (.int .i64 v1) (.int .i64 v2) (.int .i64 v3) (.int .i64 v4) (.int .i64 v5) (.int .i64 v6) (.int .i64 v7) (.int .i64 v8) (.int .i64 v9) (.int .i64 v10) (.int .i64 v11))
    have HB := Lib.hid hi.b
    have HK := Lib.hid hK
    have HD := Lib.hid (show w.heap.size + 2 < D from by have := HS3.out; omega)
    clear hi hus hrow hK hlen hul hcv
    go_wp2_with fail
    clear c0 c1 c2 c3 c4 c5 c6 c7 c8 c9 c10 c11 e0 e1 e2 e3 e4 e5 e6 e7 e8 e9 e10 e11 f0 f1 f2 f3 f4 f5 f6 f7 f8 f9 f10 f11
    generalize ((((((((((((W.setCell ⟨w.heap.size, 0, none⟩ (.int .i64 v0)).setCell ⟨w.heap.size, 1, none⟩ (.int .i64 v1)).setCell ⟨w.heap.size, 2, none⟩ (.int .i64 v2)).setCell ⟨w.heap.size, 3, none⟩ (.int .i64 v3)).setCell ⟨w.heap.size, 4, none⟩ (.int .i64 v4)).setCell ⟨w.heap.size, 5, none⟩ (.int .i64 v5)).setCell ⟨w.heap.size, 6, none⟩ (.int .i64 v6)).setCell ⟨w.heap.size, 7, none⟩ (.int .i64 v7)).setCell ⟨w.heap.size, 8, none⟩ (.int .i64 v8)).setCell ⟨w.heap.size, 9, none⟩ (.int .i64 v9)).setCell ⟨w.heap.size, 10, none⟩ (.int .i64 v10)).setCell ⟨w.heap.size, 11, none⟩ (.int .i64 v11)) = Wf at HS ⊢
    have hDW := (Array.getElem?_eq_some_iff.1 HK.out).1
    have hDf := (HS.out.2.block D hDW (by have := HD.out; omega)).trans HK.out
    refine bodyPostM_mark hDf (results_cell_row rfl _ _ w.heap.size _ _ _ _ rfl ((World.putObj_heap_other (by have := HD.out; omega)).trans HS.out.1) Try.underlying33 rfl (by kernel_rfl)) ⟨by rw [HE.out]; rfl, below_putObj (HB.out.trans (HS.out.2.below (fun i hi e => by omega) HB.out.size)) (by have := HD.out; omega) (Nat.lt_of_lt_of_le hDW HS.out.2.size) _⟩
theorem of_any (w : World) (g : Nat) (A : Option Addr) (c : Nat) (σ : Nt) (h : NetP w g A c σ) (hp : PkOk σ.ps) (hl : σ.ps.length ≤ 1000) :
    Calls Try.prog 8 #[.pointer (some ⟨g, 0, none⟩)] w fun e w' => e = .returned (.agg (cvC (ofL σ.ps))) ∧ Below w.heap.size w w' :=
  of_seq _ σ.ps w hp fun w0 hb _ hbi => packets1_any w.heap.size (w.heap.size + 2) g (by omega) σ A c w0 hbi (fun W hW => h.same2 (SameTo.trans (SameTo.below hb) hW) h.foot) hl
theorem of_nil (w : World) :
    Calls Try.prog 8 #[.pointer none] w fun e w' => e = .returned (.agg (cvC (ofL []))) ∧ Below w.heap.size w w' :=
  of_seq none [] w (fun _ h => by cases h) fun w0 _ _ hbi => packets1_nil w.heap.size (w.heap.size + 2) w0 hbi
end Go.Proofs.Ytebcginnnjigjaa

end
section
/- The frames that a net's packets are. -/
open Go.RowKit Go.Shelf
namespace Go.Proofs.Ytebcginnnjigjaa

/-! ### rows of frames -/
structure FT where
  x : Fr
  A : Option Addr
  c : Nat
def FT.cs (t : FT) : List Value := (t.x.cells t.A t.c).toList
def fcs (l : List FT) : List Value := l.flatMap FT.cs
theorem fcs_len : ∀ l : List FT, (fcs l).length = l.length * 11
  | [] => rfl
  | t :: l => by
    show (t.cs ++ fcs l).length = _
    rw [List.length_append, fcs_len l, List.length_cons]
    show 11 + _ = _
    omega
theorem fcs_append (a b : List FT) : fcs (a ++ b) = fcs a ++ fcs b := by simp [fcs]
theorem oneCell_fcs (l : List FT) : ∀ u ∈ fcs l, u.oneCell' = true := by
  intro u hu
  simp only [fcs, List.mem_flatMap, FT.cs, Fr.cells] at hu
  obtain ⟨t, _, hu⟩ := hu
  simp only [List.mem_cons, List.not_mem_nil, or_false] at hu
  rcases hu with rfl | rfl | rfl | rfl | rfl | rfl | rfl | rfl | rfl | rfl | rfl <;> rfl
theorem info_fr : (Try.prog.info? 58).map (fun i => (i.size, i.bytes)) = some (11, 104) := by kernel_rfl
/-- A row of frames of its own; each frame's list is a row of strings. -/
def FRow (w : World) (A : Option Addr) (c : Nat) (l : List FT) : Prop :=
  w.ownsRow 0 58 11 (.slice A l.length c) l.length (fcs l) ∧ ∀ t ∈ l, SRow w t.A t.c t.x.l
section
variable {w w1 : World} {A : Option Addr} {c : Nat} {l : List FT}
theorem FRow.nil (w : World) : FRow w none 0 [] := ⟨own_nil w 0 _ 11, fun _ h => by cases h⟩
theorem FRow.lt (h : FRow w A c l) {k : Nat} (hk : blk A = some k) : k < w.heap.size := (World.ownsRow.lt h.1 k (by rw [ownBlock_slice]; exact hk)).2
theorem FRow.below (h : FRow w A c l) (hb : Below w.heap.size w w1) : FRow w1 A c l := ⟨ownsRow_chg h.1 (F := fun _ => False) (.of_below hb) (fun _ _ f => f), fun t ht => (h.2 t ht).below hb⟩
theorem FRow.apart (h : FRow w A c l) {B : Option Addr} {d : Nat} {m : List ByteArray} (hs : SRow w B d m) {k : Nat} (hk : blk A = some k) : blk B ≠ some k := by
  intro hB
  rcases h.1.2 with ⟨hn, _⟩ | ⟨g, cap, cur, hv, _, hg, _⟩
  · injection hn with h1; subst h1; simp [blk] at hk
  · rcases hs.2 with ⟨hn, _⟩ | ⟨g2, cap2, cur2, hv2, _, hg2, _⟩
    · injection hn with h1; subst h1; simp [blk] at hB
    · injection hv with h1; subst h1
      injection hv2 with h2; subst h2
      have e1 : g = k := by simpa [blk] using hk
      have e2 : g2 = k := by simpa [blk] using hB
      subst e1 e2
      rw [hg] at hg2
      injection hg2 with hg2
      injection hg2 with _ ht
      exact absurd ht (by decide)
theorem FRow.putObj (h : FRow w A c l) {b : Nat} {o : Obj} (hb : w.heap[b]? = some o) (ho : o.isCells = false) (o' : Obj) : FRow (w.putObj b o') A c l := by
  have key : ∀ {e : TypeId} {size n : Nat} {v : Value} {xs : List Value}, w.ownsRow 0 e size v n xs → (w.putObj b o').ownsRow 0 e size v n xs := fun h => by
    refine ⟨h.1, ?_⟩
    rcases h.2 with h2 | ⟨g, cap, cur, hv, h1, h2, h3⟩
    · exact .inl h2
    · refine .inr ⟨g, cap, cur, hv, h1, (World.putObj_heap_other (fun e => ?_)).trans h2, h3⟩
      subst e
      rw [hb] at h2
      injection h2 with h2
      subst h2
      cases ho
  exact ⟨key h.1, fun t ht => key (h.2 t ht)⟩
theorem FRow.set (h : FRow w A c l) {b k : Nat} (hb : ∀ k, blk A = some k → k ≠ b) (hl : ∀ t ∈ l, ∀ k, blk t.A = some k → k ≠ b) (v : Value) : FRow (w.setCell ⟨b, k, none⟩ v) A c l :=
  ⟨ownsRow_chg h.1 (F := fun i => i = b) ((Chg.refl _ w).set b k v (fun _ => rfl)) (fun i hi e => hb i (by rw [ownBlock_slice] at hi; exact hi) e),
    fun t ht => (h.2 t ht).chg (F := fun i => i = b) ((Chg.refl _ w).set b k v (fun _ => rfl)) (fun i hi e => hl t ht i hi e)⟩
end
theorem wpList_append_fr {w : World} {ops : Array Oper} {rest : List Oper} {o : Oper} {a : Act} {Q : Exit → Act → World → Prop} (hgd : o.guard = none) (s x : Operand)
    (ho : o.op = .call { callee := .builtin .append, args := #[s, x], argTypes := #[37, 37] })
    (A : Option Addr) (c : Nat) (l : List FT) (hs : a.eval s = .slice A l.length c) (hrow : FRow w A c l)
    (A' : Option Addr) (c' : Nat) (t : FT) (hx : a.eval x = .slice A' 1 c') (hr : Reads w 11 A' 1 t.cs) (ht : SRow w t.A t.c t.x.l) (hlen : l.length + 1 ≤ 100000)
    (h : ∀ A1 c1 w1, FRow w1 A1 c1 (l ++ [t]) → Chg (fun i => blk A = some i) w w1 → (∀ k, blk A1 = some k → blk A = some k ∨ k = w.heap.size) → wpList Try.prog ops Q rest (a.put o.dst (.slice A1 (l.length + 1) c1)) w1) : wpList Try.prog ops Q (o :: rest) a w := by
  obtain ⟨i0, hi, hz1, hz2⟩ : ∃ i, Try.prog.info? 58 = some i ∧ i.size = 11 ∧ i.bytes = 104 := by
    have h0 := info_fr
    cases hq : Try.prog.info? 58 with
    | none => rw [hq] at h0; cases h0
    | some i => rw [hq] at h0; simp at h0; exact ⟨i, rfl, h0.1, h0.2⟩
  obtain ⟨z, hz0, hzs⟩ : ∃ z, i0.zero = some z ∧ z.cells.size = 11 := by
    have h0 : ((Try.prog.info? 58).bind (fun i => i.zero)).map (fun z => z.cells.size) = some 11 := by kernel_rfl
    rw [hi] at h0
    cases hq : i0.zero with
    | none => rw [show (some i0).bind (fun i : TypeInfo => i.zero) = i0.zero from rfl, hq] at h0; cases h0
    | some z => rw [show (some i0).bind (fun i : TypeInfo => i.zero) = i0.zero from rfl, hq] at h0; exact ⟨z, rfl, by simpa using h0⟩
  refine wpList_append_any w hgd s x 37 ho 0 58 i0 z 11 104 Try.underlying37 hi hz0 hz1 hz2 hzs (by omega) _ _ _ hs hrow.1 A' _ c' _ hx hr (fun u hu => oneCell_fcs [t] u (by simpa [fcs] using hu)) (by unfold maxLen; omega) (by omega) (Nat.zero_le _) ?_
  intro v' w' h1 h2 h3
  obtain ⟨A1, c1, rfl, _⟩ := own_slice h1
  rw [ownBlock_slice] at h2
  have hc : Chg (fun i => blk A = some i) w w' := ⟨h2.os, h2.tape, h2.output, h2.size, fun i hi hF => h2.block i hi (fun e => hF e.symm)⟩
  refine h A1 c1 w' ⟨?_, fun u hu => ?_⟩ hc fun k hk => ?_
  · rw [fcs_append, List.length_append, List.length_singleton, show fcs [t] = t.cs by simp [fcs]]; exact h1
  · rcases List.mem_append.1 hu with h4 | h4
    · exact (hrow.2 u h4).chg hc (fun k hk e => hrow.apart (hrow.2 u h4) e hk)
    · rw [List.mem_singleton] at h4
      subst h4
      exact ht.chg hc (fun k hk e => hrow.apart ht e hk)
  · rw [ownBlock_slice, ownBlock_slice] at h3
    rcases h3 with h3 | h3
    · exact .inl (h3 ▸ hk)
    · rw [hk] at h3; exact .inr (Option.some.inj h3)

/-! ### the frames of packets -/
def frameOf (p : Int × ByteArray) : Option Fr := if getE (bl p.2) = 0 then some (getX (bl p.2)) else none
def framesL (ps : List (Int × ByteArray)) : List Fr := ps.filterMap frameOf
theorem framesL_snoc (ps : List (Int × ByteArray)) (p : Int × ByteArray) : framesL (ps ++ [p]) = if getE (bl p.2) = 0 then framesL ps ++ [getX (bl p.2)] else framesL ps := by
  unfold framesL
  rw [List.filterMap_append]
  unfold frameOf
  split
  · rename_i h; simp [h]
  · rename_i h; simp [h]
theorem framesL_len (ps : List (Int × ByteArray)) : (framesL ps).length ≤ ps.length := List.length_filterMap_le _ _
end Go.Proofs.Ytebcginnnjigjaa

end
section
/- The frames that a net's packets are: walked. -/
open Go.RowKit Go.Shelf
namespace Go.Proofs.Ytebcginnnjigjaa

/-- Between two packets: the frames' box. -/
structure FrI (w : World) (ps : List (Int × ByteArray)) (W : World) : Prop where
  b : Below w.heap.size w W
  lt : w.heap.size + 1 < W.heap.size
  row : ∃ A c l, W.heap[w.heap.size]? = some (.cells #[.slice A (List.length l) c] 37 (0, 0)) ∧ FRow W A c l ∧ l.map FT.x = framesL ps ∧ (∀ k, blk A = some k → w.heap.size + 2 ≤ k) ∧ (∀ t ∈ l, ∀ k, blk t.A = some k → w.heap.size + 2 ≤ k)
section
variable {w : World} {ps : List (Int × ByteArray)} {W : World}
theorem FrI.ab (h : FrI w ps W) {W' : World} (hab : AbC W W') : FrI w ps W' := by
  obtain ⟨A, c, l, h1, h2, h3, h4, h5⟩ := h.row
  exact ⟨h.b.trans (hab.mono h.b.size), Nat.lt_of_lt_of_le h.lt hab.size, A, c, l, (hab.block _ (Array.getElem?_eq_some_iff.1 h1).1).trans h1, h2.below hab, h3, h4, h5⟩
theorem FrI.obj (h : FrI w ps W) {b : Nat} {o : Obj} (hl : w.heap.size + 1 < b) (ho : W.heap[b]? = some o) (hc : o.isCells = false) (o' : Obj) : FrI w ps (W.putObj b o') := by
  obtain ⟨A, c, l, h1, h2, h3, h4, h5⟩ := h.row
  exact ⟨below_putObj h.b (by omega) (Array.getElem?_eq_some_iff.1 ho).1 o', by rw [World.putObj_size]; exact h.lt, A, c, l, (World.putObj_heap_other (by omega)).trans h1, h2.putObj ho hc o', h3, h4, h5⟩
theorem FrI.alloc (h : FrI w ps W) (o : Obj) : FrI w ps (W.alloc o) := h.ab ((Below.refl _ _).alloc (Nat.le_refl _) o)
end
/-- What a step of a round keeps. -/
structure FrK (w : World) (W W' : World) : Prop where
  size : W.heap.size ≤ W'.heap.size
  chg : ∀ k, k < W.heap.size → k < w.heap.size ∨ k = w.heap.size + 1 → W'.heap[k]? = W.heap[k]?
  cells : ∀ (k : Nat) (o : Obj), W.heap[k]? = some o → o.isCells = false → W'.heap[k]? = some o
theorem FrK.refl (w W : World) : FrK w W W := ⟨Nat.le_refl _, fun _ _ _ => rfl, fun _ _ h _ => h⟩
theorem FrK.set {w W W' : World} (h : FrK w W W') (j : Nat) (v : Value) : FrK w W (W'.setCell ⟨w.heap.size, j, none⟩ v) :=
  ⟨by rw [size_set]; exact h.size, fun k hk hn => (heap_setCell_other _ ⟨w.heap.size, j, none⟩ _ _ (by show k ≠ w.heap.size; omega)).trans (h.chg k hk hn), fun k o hk ho => (KeepsOthers.setCell _ _ _).same _ _ (h.cells k o hk ho) ho⟩
theorem FrK.below {w W W' W2 : World} (h : FrK w W W') (hb : Below W'.heap.size W' W2) : FrK w W W2 :=
  ⟨Nat.le_trans h.size hb.size, fun k hk hn => (hb.block k (by have := h.size; omega)).trans (h.chg k hk hn), fun k o hk ho => (hb.block k (Array.getElem?_eq_some_iff.1 (h.cells k o hk ho)).1).trans (h.cells k o hk ho)⟩
theorem FrK.row {w W W' W2 : World} (h : FrK w W W') {A : Option Addr} {c : Nat} {l : List FT} (hr : FRow W' A c l) (hA : ∀ k, blk A = some k → w.heap.size + 2 ≤ k) (hc : Chg (fun i => blk A = some i) W' W2) : FrK w W W2 :=
  ⟨Nat.le_trans h.size hc.size, fun k hk hn => (hc.block k (by have := h.size; omega) (fun e => by have := hA k e; omega)).trans (h.chg k hk hn), fun k o hk ho => by
    have h1 := h.cells k o hk ho
    refine (hc.block k (Array.getElem?_eq_some_iff.1 h1).1 (fun e => ?_)).trans h1
    rcases hr.1.2 with ⟨hn, _⟩ | ⟨g, cap, cur, hv, _, hg, _⟩
    · injection hn with h2; subst h2; simp [blk] at e
    · injection hv with h2; subst h2
      have e1 : g = k := by simpa [blk] using e
      subst e1
      rw [hg] at h1
      injection h1 with h1
      subst h1
      cases ho⟩
theorem FrK.post {w W W' : World} (h : FrK w W W') (B : Nat) (hW : w.heap.size + 1 < W.heap.size) : KeepsFrom B W W' ∧ KpC w.heap.size (w.heap.size + 1) W W' :=
  ⟨⟨h.size, fun k o _ hk ho => h.cells k o hk ho⟩, fun k hk => h.chg k (by omega) (.inl hk), h.chg _ hW (.inr rfl)⟩
set_option maxHeartbeats 4000000 in
set_option maxRecDepth 100000 in
theorem frames_seq (q : Option Addr) (ps : List (Int × ByteArray)) (w : World) (hp : PkOk ps) (hpl : ps.length ≤ 1000)
    (hseq : ∀ w0 : World, Below w.heap.size w w0 → w.heap.size + 1 < w0.heap.size → w0.heap[w.heap.size + 1]? = some (.cells #[.pointer q] 25 (0, 0)) → SeqR Try.prog 41 #[.pointer (some ⟨w.heap.size + 1, 0, none⟩)] (fun p : Int × ByteArray => #[pv p]) (KpC w.heap.size (w.heap.size + 1)) AbC ps w0) :
    Calls Try.prog 11 #[.pointer q] w fun e w' => ∃ A c l, e = .returned (.slice A (List.length l) c) ∧ l.map FT.x = framesL ps ∧ FRow w' A c l ∧ (∀ k, blk A = some k → w.heap.size ≤ k) ∧ Below w.heap.size w w' := by
  have Hp := Lib.hid hp
  have HPl := Lib.hid hpl
  obtain ⟨hb1, hg1, hs1⟩ := alloc1 w #[.slice none 0 0] 37
  obtain ⟨hb2, hg2, hs2⟩ := alloc1 (w.alloc (.cells #[.slice none 0 0] 37)) #[.pointer q] 25
  rw [hs1] at hg2 hs2
  have hbb := hb1.trans (hb2.mono (B' := w.heap.size) hb1.size)
  have HSq := Lib.hid (hseq _ hbb (by rw [hs2]; omega) hg2)
  have HI : Hid (FrI w [] ((w.alloc (.cells #[.slice none 0 0] 37)).alloc (.cells #[.pointer q] 25))) := Lib.hid ⟨hbb, by rw [hs2]; omega, none, 0, [], (heap_alloc_old _ _ (by rw [hs1]; omega)).trans hg1, FRow.nil _, rfl, by simp [blk], fun _ h => by cases h⟩
  clear hp hseq hpl hb1 hg1 hb2 hg2 hbb
  refine calls_of_marks Try.func11 rfl ?_
  simp only [Try.ntmps11, List.size_toArray, List.length_cons, List.length_nil, Nat.reduceAdd, Nat.reduceSub, Array.replicate_succ, Array.replicate_zero, List.push_toArray, List.append_toArray, List.nil_append, List.cons_append]
  go_wp2_with fail
  refine (packets_any q _).mono ?_
  rintro e w3 ⟨rfl, hw3⟩
  rw [hw3] at HSq HI hs2
  rw [hs1]
  have HS3 := Lib.hid hs2
  clear hw3 hs1 hs2
  go_wp2_with fail
  refine wp_rangeB (gf := 41) (lb := #[.pointer (some ⟨w.heap.size + 1, 0, none⟩)]) rfl (enters_of Try.func41 (by kernel_rfl) rfl) HSq.out (Below.refl _ _) (fun _ => rfl) KpC.trans (fun W l o o' hl _ _ => KpC.putObj W (by have := HS3.out; omega) (by have := HS3.out; omega) o')
    (fun _ _ h k o _ hk ho => h.others k o hk ho)
    (fun pre W => FrI w pre W)
    (fun pre A B h hab => h.ab hab)
    (fun pre W l o o' h hl ho hc => h.obj (by have := HS3.out; omega) ho hc o')
    (fun pre W o h _ => h.alloc o)
    (fun W o hW => ⟨fun k hk => heap_alloc_old _ _ (by have := HS3.out; omega), heap_alloc_old _ _ (by have := HS3.out; omega)⟩)
    HI.out (fun x => .cells #[.int .i64 x.1, .string x.2] 51) (fun x b => { tmps := #[.pointer q, undef, .slice none 0 0, .pointer (some ⟨w.heap.size, 0, none⟩), .pointer (some ⟨b, 0, none⟩), undef, undef, .pointer q, .func (.func 41) #[] #[.pointer (some ⟨w.heap.size + 1, 0, none⟩)], pv x, undef, undef, undef, undef, undef, undef, undef, undef, undef, undef, undef, undef, undef, undef], defers := [] }) ?assign ?body ?done
  case assign =>
    intro l x W K hK
    refine wpIn_round_list (not_letsOut_then (fun ⟨_, _, h⟩ => h)) (by kernel_rfl) ?_
    unfold pv
    go_wp2_with fail
    exact hK
  case body =>
    rintro l b pre ⟨x, s⟩ W hi hpre hb hx
    have HSz := Lib.hid (Hp.out (x, s) (hpre.subset (by simp))).2
    have hpl := hpre.length_le
    rw [List.length_append, List.length_singleton] at hpl
    have HFl := Lib.hid (framesL_len pre)
    have HI := Lib.hid hi
    have HX := Lib.hid hx
    have HE := Lib.hid (framesL_snoc pre (x, s))
    have HK := Lib.hid (FrK.refl w W)
    have HW0 := Lib.hid hi.lt
    have HLe := Lib.hid (show pre.length ≤ 1000 from by have := HPl.out; omega)
    clear hi hx hpre hpl
    apply wpIn_block
    obtain ⟨b0, b1, _, _⟩ := cells2 HX.out
    apply wpIn_seq_k
    intro K2 hK2
    refine wpIn_round_list (not_letsOut_then (not_letsOut_block postR_out)) (by kernel_rfl) ?_
    go_wp2_with (refine wpList_bytes_of rfl (.tmp 12) rfl s rfl ?_)
    intro A1 c1 W3 hr hc hb3
    have HG := Lib.hid (frGet_any W3 A1 c1 (bl s) hr (by rw [bl_length]; exact hc) (by rw [bl_length]; have := HSz.out; omega))
    have HK := Lib.hid (HK.out.below hb3)
    have HI := Lib.hid (HI.out.ab hb3)
    have HF : Hid (framesL (pre ++ [(x, s)]) = if getE (bl s) = 0 then framesL pre ++ [getX (bl s)] else framesL pre) := HE
    generalize getX (bl s) = y at HG HF
    obtain ⟨m, hm⟩ : ∃ m, getE (bl s) = m := ⟨_, rfl⟩
    rw [hm] at HG HF
    unfold Fr.cells at HG
    clear hm hr hc hb3 b0 b1 HX HE
    go_wp2_with fail
    refine HG.out.mono ?_
    rintro e W4 ⟨A4, c4, rfl, ho⟩
    have hb4 := ho.2.2
    obtain ⟨hb5, hg5, hs5⟩ := alloc1 W4 #[.int .i64 y.k, .int .u64 (y.s : Int), .int .u64 (y.e : Int), .int .u32 (y.q : Int), .int .u32 (y.v : Int), .int .i64 y.n, .int .i64 y.f, .int .i64 y.i, .int .i64 y.c, .string y.d, .slice A4 y.l.length c4] 58
    have HAl := Lib.hid (show ∀ k, blk A4 = some k → w.heap.size + 2 ≤ k from fun k hk => by have := ho.2.1 k hk; have := HI.out.lt; omega)
    have HY := Lib.hid (ho.1.below hb5)
    have HK := Lib.hid ((HK.out.below hb4).below hb5)
    have HI := Lib.hid ((HI.out.ab hb4).ab hb5)
    have HG5 := Lib.hid hg5
    clear ho hb4 hb5 hs5 hg5 HG
    go_wp2_with fail
    generalize W4.alloc (.cells #[.int .i64 y.k, .int .u64 (y.s : Int), .int .u64 (y.e : Int), .int .u32 (y.q : Int), .int .u32 (y.v : Int), .int .i64 y.n, .int .i64 y.f, .int .i64 y.i, .int .i64 y.c, .string y.d, .slice A4 y.l.length c4] 58) = W5 at HK HI HG5 HY ⊢
    by_cases hm0 : m = 0
    · subst hm0
      rw [if_pos rfl] at HF
      rw [show ((0 : Nat) : Int) = 0 from rfl]
      apply wpIn_seq_k
      intro K2 hK2
      refine wpIn_round_list (not_letsOut_then (not_letsOut_block postR_out)) (by kernel_rfl) ?_
      go_wp2_with fail
      refine wpIn_cond (t := true) rfl ?_
      rw [if_pos rfl]
      obtain ⟨A, c, l6, h1, h2, h3, h4, h5⟩ := HI.out.row
      obtain ⟨e0, _⟩ := cells1 h1
      obtain ⟨d0, d1, d2, d3, d4, d5, d6, d7, d8, d9, d10⟩ := cells11 HG5.out
      have HLl := Lib.hid (show l6.length + 1 ≤ 100000 from by
        have h6 : l6.length = (framesL pre).length := by rw [← h3, List.length_map]
        have := HFl.out; have := HLe.out; omega)
      obtain ⟨hb6, hg6, _⟩ := alloc1 W5 #[.int .i64 y.k, .int .u64 (y.s : Int), .int .u64 (y.e : Int), .int .u32 (y.q : Int), .int .u32 (y.v : Int), .int .i64 y.n, .int .i64 y.f, .int .i64 y.i, .int .i64 y.c, .string y.d, .slice A4 y.l.length c4] 58
      have HX6 := Lib.hid (And.intro (h2.below hb6) (And.intro (Reads.of_block (n := 1) (sz := 11) hg6 rfl) (HY.out.below hb6)))
      have HK6 := Lib.hid (HK.out.below hb6)
      have HB6 := Lib.hid (HI.out.b.trans (hb6.mono (B' := w.heap.size) HI.out.b.size))
      have H1 := Lib.hid ((hb6.block _ (Array.getElem?_eq_some_iff.1 h1).1).trans h1)
      have H3 := Lib.hid h3
      have H4 := Lib.hid h4
      have H5 := Lib.hid h5
      have HS5 := Lib.hid (show w.heap.size + 1 < W5.heap.size from HI.out.lt)
      clear h1 h2 h3 h4 h5 hb6 hg6
      refine wpIn_round_list (not_letsOut_block postR_out) (by kernel_rfl) ?_
      go_wp2_with (at_builtin; refine wpList_append_fr rfl (.tmp 19) (.tmp 21) rfl A c l6 rfl HX6.out.1 (some ⟨W5.heap.size, 0, none⟩) 1 ⟨y, A4, c4⟩ rfl HX6.out.2.1 HX6.out.2.2 HLl.out ?_)
      intro A7 c7 w7 hrow hchg hblk
      have h7 := (hchg.block _ (Array.getElem?_eq_some_iff.1 H1.out).1 (fun e => by have := H4.out _ e; omega)).trans H1.out
      obtain ⟨e7, f7⟩ := cells1 h7
      have H7 := Lib.hid h7
      have HK7 := Lib.hid (HK6.out.row HX6.out.1 H4.out hchg)
      have HB7 := Lib.hid (HB6.out.trans (hchg.below (fun i hi e => by have := H4.out i e; omega) HB6.out.size))
      have HR7 := Lib.hid hrow
      have HA7 := Lib.hid (show ∀ k, blk A7 = some k → w.heap.size + 2 ≤ k from fun k hk => by
        rcases hblk k hk with h | h
        · exact H4.out k h
        · have := HS5.out; omega)
      have HS7 := Lib.hid (show w.heap.size + 1 < w7.heap.size from by have := hchg.size; rw [size_alloc] at this; have := HS5.out; omega)
      clear h7 hrow hchg hblk d0 d1 d2 d3 d4 d5 d6 d7 d8 d9 d10 e0
      go_wp2_with fail
      have hp := (HK7.out.set 0 (.slice A7 (l6.length + 1) c7)).post w3.heap.size HW0.out
      refine ⟨hp.1, hp.2, ?_⟩
      show FrI w _ _
      refine ⟨HB7.out.setCell (p := ⟨w.heap.size, 0, none⟩) (Nat.le_refl _) _, by rw [size_set]; exact HS7.out, A7, c7, l6 ++ [⟨y, A4, c4⟩], ?_, HR7.out.set (fun k hk => by have := HA7.out k hk; omega) (fun t ht k hk => ?_) _, by rw [HF.out, List.map_append, H3.out]; rfl, HA7.out, fun t ht k hk => ?_⟩
      · rw [List.length_append, List.length_singleton]
        exact heap_setCell_same w7 w.heap.size 0 _ _ (.slice A7 (l6.length + 1) c7) H7.out
      · rcases List.mem_append.1 ht with h | h
        · have := H5.out t h k hk; omega
        · rw [List.mem_singleton] at h; subst h; have := HAl.out k hk; omega
      · rcases List.mem_append.1 ht with h | h
        · exact H5.out t h k hk
        · rw [List.mem_singleton] at h; subst h; exact HAl.out k hk
    · rw [if_neg hm0] at HF
      have hb0 : ((m : Int) == 0) = false := by rw [beq_eq_false_iff_ne]; omega
      clear hm0
      apply wpIn_seq_k
      intro K2 hK2
      refine wpIn_round_list (not_letsOut_then (not_letsOut_block postR_out)) (by kernel_rfl) ?_
      go_wp2_with fail
      refine wpIn_cond (t := false) rfl ?_
      rw [if_neg (by decide)]
      refine wpIn_skip ?_
      have hp := HK.out.post w3.heap.size HW0.out
      refine ⟨hp.1, hp.2, ?_⟩
      show FrI w _ _
      obtain ⟨A, c, l, h1, h2, h3, h4, h5⟩ := HI.out.row
      exact ⟨HI.out.b, HI.out.lt, A, c, l, h1, h2, by rw [HF.out]; exact h3, h4, h5⟩
  case done =>
    rintro D W hD hi hK
    obtain ⟨A, c, l, h1, h2, h3, h4, h5⟩ := hi.row
    obtain ⟨c0, _⟩ := cells1 h1
    have H2 := Lib.hid h2
    have H3 := Lib.hid h3
    have H4 := Lib.hid h4
    have HB := Lib.hid hi.b
    have HK := Lib.hid hK
    have HD := Lib.hid (show w.heap.size ≤ D from by have := HS3.out; omega)
    clear hi h1 h2 h3 h4 h5 hK hD
    go_wp2_with fail
    refine bodyPostM_mark HK.out (results_tmp rfl _ _ _) ⟨A, c, l, rfl, H3.out, H2.out.putObj HK.out rfl _, fun k hk => by have := H4.out k hk; omega, below_putObj HB.out HD.out (Array.getElem?_eq_some_iff.1 HK.out).1 _⟩
theorem frames_any (w : World) (g : Nat) (A : Option Addr) (c : Nat) (σ : Nt) (h : NetP w g A c σ) (hp : PkOk σ.ps) (hl : σ.ps.length ≤ 1000) :
    Calls Try.prog 11 #[.pointer (some ⟨g, 0, none⟩)] w fun e w' => ∃ A c l, e = .returned (.slice A (List.length l) c) ∧ l.map FT.x = framesL σ.ps ∧ FRow w' A c l ∧ (∀ k, blk A = some k → w.heap.size ≤ k) ∧ Below w.heap.size w w' :=
  frames_seq _ σ.ps w hp hl fun w0 hb _ hbi => packets1_any w.heap.size (w.heap.size + 1) g (by omega) σ A c w0 hbi (fun W hW => h.same2 (SameTo.trans (SameTo.below hb) hW) h.foot) hl
end Go.Proofs.Ytebcginnnjigjaa

end
