/- A net of the program's and one of the document's, side by side. -/
import Derived.Test.YtiolfnnkkflaiaaRNet4
open Go.RowKit
namespace Go.Proofs.Ytiolfnnkkflaiaa

/-- What is kept: all blocks but those of F. -/
def KeepP (F : Nat → Prop) (w w' : World) : Prop := w.heap.size ≤ w'.heap.size ∧ ∀ k, k < w.heap.size → ¬ F k → w'.heap[k]? = w.heap[k]?
theorem KeepP.refl (F : Nat → Prop) (w : World) : KeepP F w w := ⟨Nat.le_refl _, fun _ _ _ => rfl⟩
theorem KeepP.trans (F : Nat → Prop) (a b c : World) (h : KeepP F a b) (k : KeepP F b c) : KeepP F a c :=
  ⟨Nat.le_trans h.1 k.1, fun i hi hF => (k.2 i (Nat.lt_of_lt_of_le hi h.1) hF).trans (h.2 i hi hF)⟩
theorem KeepP.of_chg {F G : Nat → Prop} {w w' : World} (h : Chg G w w') (hG : ∀ i, i < w.heap.size → G i → F i) : KeepP F w w' := ⟨h.size, fun i hi hF => h.block i hi (fun g => hF (hG i hi g))⟩
theorem KeepP.cell {F : Nat → Prop} {w w' : World} (h : KeepP F w w') {p : Addr} {v : Value} (hp : w.cell? p = some v) (hm : ¬ F p.block) : w'.cell? p = some v := by
  have h1 := h.2 p.block (World.block_lt_of_cell? _ _ hp) hm
  rw [← hp]
  unfold World.cell?
  rw [h1]

/-- Both nets, apart. -/
structure Duo (w : World) (g : Nat) (A : Option Addr) (c : Nat) (g' : Nat) (A' : Option Addr) (c' : Nat) (σ τ : Nt) : Prop where
  n : NetP w g A c σ
  r : NetR w g' A' c' τ
  d : ∀ i, Foot g A i → ¬ Foot g' A' i
def F2 (g : Nat) (A : Option Addr) (g' : Nat) (A' : Option Addr) : Nat → Prop := fun i => Foot g A i ∨ Foot g' A' i
def DuoPost (w : World) (g : Nat) (A : Option Addr) (g' : Nat) (A' : Option Addr) (σ : Nt) (w' : World) : Prop :=
  ∃ A1 c1 A2 c2, Duo w' g A1 c1 g' A2 c2 σ σ ∧ (∀ k, blk A1 = some k → blk A = some k ∨ w.heap.size ≤ k) ∧ (∀ k, blk A2 = some k → blk A' = some k ∨ w.heap.size ≤ k) ∧ Chg (F2 g A g' A') w w'
section
variable {w w1 w2 : World} {g : Nat} {A : Option Addr} {c : Nat} {g' : Nat} {A' : Option Addr} {c' : Nat} {σ τ σ' : Nt}
theorem Duo.chg {F : Nat → Prop} (h : Duo w g A c g' A' c' σ τ) (hc : Chg F w w1) (hF : ∀ i, F2 g A g' A' i → ¬ F i) : Duo w1 g A c g' A' c' σ τ :=
  ⟨h.n.chg hc (fun i hi => hF i (.inl hi)), h.r.chg hc (fun i hi => hF i (.inr hi)), h.d⟩
theorem Duo.foot (h : Duo w g A c g' A' c' σ τ) : ∀ i, F2 g A g' A' i → i < w.heap.size := fun i hi => hi.elim (h.n.foot i) (h.r.foot i)
/-- A method of the program's net. -/
theorem Duo.onN (h : Duo w g A c g' A' c' σ τ) (hp : NetPost w g A σ' w1) : ∃ A1 c1, Duo w1 g A1 c1 g' A' c' σ' τ ∧ (∀ k, blk A1 = some k → blk A = some k ∨ w.heap.size ≤ k) ∧ Chg (Foot g A) w w1 := by
  obtain ⟨A1, c1, h1, h2, h3⟩ := hp
  refine ⟨A1, c1, ⟨h1, h.r.chg h3 (fun i hi hj => h.d i hj hi), fun i hi hj => ?_⟩, h2, h3⟩
  rcases hi with hi | hi
  · exact h.d i (.inl hi) hj
  · rcases h2 i hi with h4 | h4
    · exact h.d i (.inr h4) hj
    · have := h.r.foot i hj; omega
/-- A method of the document's. -/
theorem Duo.onR (h : Duo w g A c g' A' c' σ τ) (hp : NetRPost w g' A' σ' w1) : ∃ A1 c1, Duo w1 g A c g' A1 c1 σ σ' ∧ (∀ k, blk A1 = some k → blk A' = some k ∨ w.heap.size ≤ k) ∧ Chg (Foot g' A') w w1 := by
  obtain ⟨A1, c1, h1, h2, h3⟩ := hp
  refine ⟨A1, c1, ⟨h.n.chg h3 (fun i hi hj => h.d i hi hj), h1, fun i hi hj => ?_⟩, h2, h3⟩
  rcases hj with hj | hj
  · exact h.d i hi (.inl hj)
  · rcases h2 i hj with h4 | h4
    · exact h.d i hi (.inr h4)
    · have := h.n.foot i hi; omega
end

theorem duo_both {w w1 w1' w2 : World} {g : Nat} {A A1 A2 : Option Addr} {c1 c2 : Nat} {g' : Nat} {A' : Option Addr} {σ : Nt} (h2 : Duo w2 g A1 c1 g' A2 c2 σ σ) (n1 : ∀ k, blk A1 = some k → blk A = some k ∨ w.heap.size ≤ k) (C1 : Chg (Foot g A) w w1) (hb : Below w1.heap.size w1 w1')
    (n2 : ∀ k, blk A2 = some k → blk A' = some k ∨ w1'.heap.size ≤ k) (C2 : Chg (Foot g' A') w1' w2) : DuoPost w g A g' A' σ w2 :=
  ⟨A1, c1, A2, c2, h2, n1, fun k hk => (n2 k hk).imp id (fun h => Nat.le_trans (Nat.le_trans C1.size hb.size) h),
    ((C1.mono (fun _ _ h => .inl h)).trans (Chg.of_below (F := fun _ => False) hb) (fun _ _ f => f.elim)).trans C2 (fun _ _ h => .inr h)⟩
theorem DuoPost.from {w w1 w2 : World} {g : Nat} {A : Option Addr} {g' : Nat} {A' : Option Addr} {σ : Nt} (h : DuoPost w1 g A g' A' σ w2) (hb : Below w.heap.size w w1) : DuoPost w g A g' A' σ w2 := by
  obtain ⟨A1, c1, A2, c2, hd, n1, n2, C⟩ := h
  exact ⟨A1, c1, A2, c2, hd, fun k hk => (n1 k hk).imp id (Nat.le_trans hb.size), fun k hk => (n2 k hk).imp id (Nat.le_trans hb.size), (Chg.of_below hb).trans C (fun _ _ h => h)⟩
theorem DuoPost.then {w w1 w2 : World} {g : Nat} {A : Option Addr} {g' : Nat} {A' : Option Addr} {σ : Nt} (h : DuoPost w g A g' A' σ w1) (hb : Below w1.heap.size w1 w2) : DuoPost w g A g' A' σ w2 := by
  obtain ⟨A1, c1, A2, c2, hd, n1, n2, C⟩ := h
  exact ⟨A1, c1, A2, c2, hd.chg (F := fun _ => False) (.of_below hb) (fun _ _ f => f), n1, n2, C.trans (Chg.of_below (F := fun _ => False) hb) (fun _ _ f => f.elim)⟩

theorem Duo.same {w : World} {g : Nat} {A : Option Addr} {c : Nat} {g' : Nat} {A' : Option Addr} {c' : Nat} {σ : Nt} (h : Duo w g A c g' A' c' σ σ) : DuoPost w g A g' A' σ w := ⟨A, c, A', c', h, fun _ hk => .inl hk, fun _ hk => .inl hk, Chg.refl _ _⟩
theorem Chg.cell {F : Nat → Prop} {w w' : World} (h : Chg F w w') {p : Addr} {v : Value} (hp : w.cell? p = some v) (hm : ¬ F p.block) : w'.cell? p = some v := (KeepP.of_chg h (fun _ _ f => f)).cell hp hm

/-- An act. -/
structure ActV where
  k : Int
  to : Int
  i : Int
  n : Int
  b : ByteArray
def ActV.cells (a : ActV) : Array Value := #[.int .i64 a.k, .int .i64 a.to, .int .i64 a.i, .int .i64 a.n, .string a.b]
def stepN (σ : Nt) (a : ActV) : Nt :=
  if a.k.tmod 7 = 0 then sendN σ a.to a.b else if a.k.tmod 7 = 1 then σ else if a.k.tmod 7 = 2 then takeN σ a.i else if a.k.tmod 7 = 3 then loseN σ a.i
  else if a.k.tmod 7 = 4 then twiceN σ a.i else if a.k.tmod 7 = 5 then cutN σ a.i a.n else dropN σ
theorem cells5 {w : World} {g : Nat} {t : TypeId} {v0 v1 v2 v3 v4 : Value} (h : w.heap[g]? = some (.cells #[v0, v1, v2, v3, v4] t (0, 0))) :
    w.cell? ⟨g, 0, none⟩ = some v0 ∧ w.cell? ⟨g, 1, none⟩ = some v1 ∧ w.cell? ⟨g, 2, none⟩ = some v2 ∧ w.cell? ⟨g, 3, none⟩ = some v3 ∧ w.cell? ⟨g, 4, none⟩ = some v4 :=
  ⟨(cell_at h 0 rfl).1, (cell_at h 1 rfl).1, (cell_at h 2 rfl).1, (cell_at h 3 rfl).1, (cell_at h 4 rfl).1⟩

set_option maxHeartbeats 4000000 in
set_option maxRecDepth 100000 in
theorem do_any (w : World) (g : Nat) (A : Option Addr) (c g' : Nat) (A' : Option Addr) (c' : Nat) (σ : Nt) (hok : σ.ok) (h : Duo w g A c g' A' c' σ σ) (a : ActV) :
    Calls Try.prog 29 #[.pointer (some ⟨g, 0, none⟩), .pointer (some ⟨g', 0, none⟩), .agg a.cells] w fun e w' => e = .returned (.bool true) ∧ DuoPost w g A g' A' (stepN σ a) w' := by
  obtain ⟨kd, to, i, n, b⟩ := a
  unfold ActV.cells stepN
  simp only
  obtain ⟨hb1, hg1, hs1⟩ := alloc1 w #[.int .i64 kd, .int .i64 to, .int .i64 i, .int .i64 n, .string b] 50
  have hD := h.chg (F := fun _ => False) (.of_below hb1) (fun _ _ f => f)
  have hnF : ¬ F2 g A g' A' w.heap.size := fun hh => by have := h.foot _ hh; omega
  obtain ⟨a0, a1, a2, a3, a4⟩ := cells5 hg1
  have HD := Lib.hid hD
  have HF := Lib.hid hnF
  have Hs1 := Lib.hid hs1
  have Hb1 := Lib.hid hb1
  have Hok := Lib.hid hok
  clear h hb1 hg1 hs1 hD hnF hok
  by_cases k0 : kd.tmod 7 = 0
  · rw [if_pos k0]
    go_enter Try.func29, Try.ntmps29
    go_wp2_with fail
    generalize w.alloc (.cells #[.int .i64 kd, .int .i64 to, .int .i64 i, .int .i64 n, .string b] 50) = w1 at HD Hs1 Hb1 a0 a1 a2 a3 a4 ⊢
    have q1 := fun w' (hk : KeepP (F2 g A g' A') w1.drew w') => hk.cell (p := ⟨w.heap.size, 1, none⟩) a1 HF.out
    have q4 := fun w' (hk : KeepP (F2 g A g' A') w1.drew w') => hk.cell (p := ⟨w.heap.size, 4, none⟩) a4 HF.out
    clear a0 a1 a2 a3 a4
    refine wp_region_mix3 (KeepP (F2 g A g' A')) (KeepP.refl (F2 g A g' A')) (KeepP.trans (F2 g A g' A')) [] [(0, 0), (0, 1), (0, 3), (0, 7), (0, 8), (0, 10), (1, 2), (1, 4), (1, 9), (1, 11), (2, 5), (2, 6), (2, 12), (0, 13), (0, 14)] (by kernel_rfl) (by kernel_rfl) (fun d _ _ _ _ h => by cases d <;> exact h) ?_
    repeat (first
      | (refine mix3_free (v := ?_) rfl rfl ?_ (mix3_norm (a' := ?_) ?_ ?_)
         rotate_left
         focus (intro w'; go_simp; first | done | (with_reducible rfl))
         rotate_left
         focus (simp only [Act.put, List.getElem_toArray, List.getElem_cons_zero, List.getElem_cons_succ, List.setIfInBounds_toArray, List.set_cons_zero, List.set_cons_succ]; rfl))
      | (refine mix3_pure (v := ?_) rfl rfl ?_ (mix3_norm (a' := ?_) ?_ ?_)
         rotate_left
         focus (intro w' hR; go_simp; first | done | (with_reducible rfl))
         rotate_left
         focus (simp only [Act.put, List.getElem_toArray, List.getElem_cons_zero, List.getElem_cons_succ, List.setIfInBounds_toArray, List.set_cons_zero, List.set_cons_succ]; rfl))
      | (refine mix3_freeOff rfl rfl (mix3_norm (a' := ?_) ?_ ?_)
         rotate_left
         focus (simp only [Act.put, List.getElem_toArray, List.getElem_cons_zero, List.getElem_cons_succ, List.setIfInBounds_toArray, List.set_cons_zero, List.set_cons_succ]; rfl))
      | (refine mix3_off rfl rfl (mix3_norm (a' := ?_) ?_ ?_)
         rotate_left
         focus (simp only [Act.put, List.getElem_toArray, List.getElem_cons_zero, List.getElem_cons_succ, List.setIfInBounds_toArray, List.set_cons_zero, List.set_cons_succ]; rfl)))
    clear q1 q4
    refine mix3_eff rfl ?_
    simp only [List.getElem_toArray, List.getElem_cons_zero, List.getElem_cons_succ]
    refine wpList_bytes_of rfl (.tmp 28) rfl b rfl ?_
    intro A5 c5 w5 hr5 _ hb5
    have hD5 := HD.out.chg (F := fun _ => False) (((Chg.refl _ w1).drew).trans (.of_below hb5) (fun _ _ f => f)) (fun _ _ f => f)
    have HB5 := Lib.hid (show Below w1.heap.size w1 w5 from ((Below.refl w1.heap.size w1).drew).trans hb5)
    go_wp2_with fail
    refine mixQ3_normal (KeepP.of_chg (Chg.of_below (F := fun _ => False) hb5) (fun _ _ f => f.elim)) rfl ?_
    refine mix3_eff rfl ?_
    simp only [List.getElem_toArray, List.getElem_cons_zero, List.getElem_cons_succ]
    have HS := Lib.hid (netSend_any w5 g A c σ Hok.out hD5.n to A5 (bl b) c5 hr5)
    have HD5 := Lib.hid hD5
    clear hr5 hb5 hD5
    go_wp2_with fail
    refine HS.out.mono ?_
    rintro e w6 ⟨rfl, hp⟩
    rw [mk_bl] at hp
    obtain ⟨A6, c6, hD6, n6, C6⟩ := HD5.out.onN hp
    go_wp2_with fail
    refine mixQ3_normal (KeepP.of_chg C6 (fun _ _ f => .inl f)) rfl ?_
    have HR := Lib.hid (refSend_any w6 g' A' c' σ Hok.out hD6.r to b)
    have HD6 := Lib.hid hD6
    have HN6 := Lib.hid n6
    have HC6 := Lib.hid C6
    clear hp hD6 n6 C6
    refine mix3_eff rfl ?_
    simp only [List.getElem_toArray, List.getElem_cons_zero, List.getElem_cons_succ]
    go_wp2_with fail
    refine HR.out.mono ?_
    rintro e w7 ⟨rfl, hp⟩
    obtain ⟨A7, c7, hD7, n7, C7⟩ := HD6.out.onR hp
    have Hfin := Lib.hid (((duo_both hD7 HN6.out HC6.out (Below.refl _ _) n7 C7).from HB5.out).from Hb1.out)
    go_wp2_with fail
    refine mixQ3_normal (KeepP.of_chg C7 (fun _ _ f => .inr f)) rfl ?_
    clear hp hD7 n7 C7
    repeat (first
      | (refine mix3_free (v := ?_) rfl rfl ?_ (mix3_norm (a' := ?_) ?_ ?_)
         rotate_left
         focus (intro w'; go_simp; first | done | (with_reducible rfl))
         rotate_left
         focus (simp only [Act.put, List.getElem_toArray, List.getElem_cons_zero, List.getElem_cons_succ, List.setIfInBounds_toArray, List.set_cons_zero, List.set_cons_succ]; rfl))
      | (refine mix3_pure (v := ?_) rfl rfl ?_ (mix3_norm (a' := ?_) ?_ ?_)
         rotate_left
         focus (intro w' hR; go_simp; first | done | (with_reducible rfl))
         rotate_left
         focus (simp only [Act.put, List.getElem_toArray, List.getElem_cons_zero, List.getElem_cons_succ, List.setIfInBounds_toArray, List.set_cons_zero, List.set_cons_succ]; rfl))
      | (refine mix3_freeOff rfl rfl (mix3_norm (a' := ?_) ?_ ?_)
         rotate_left
         focus (simp only [Act.put, List.getElem_toArray, List.getElem_cons_zero, List.getElem_cons_succ, List.setIfInBounds_toArray, List.set_cons_zero, List.set_cons_succ]; rfl))
      | (refine mix3_off rfl rfl (mix3_norm (a' := ?_) ?_ ?_)
         rotate_left
         focus (simp only [Act.put, List.getElem_toArray, List.getElem_cons_zero, List.getElem_cons_succ, List.setIfInBounds_toArray, List.set_cons_zero, List.set_cons_succ]; rfl)))
    refine mix3_done ?_
    go_wp2_with fail
    go_ret
    exact ⟨rfl, Hfin.out⟩
  · rw [if_neg k0]
    by_cases k1 : kd.tmod 7 = 1
    · rw [if_pos k1]
      go_enter Try.func29, Try.ntmps29
      go_wp2_with fail
      generalize w.alloc (.cells #[.int .i64 kd, .int .i64 to, .int .i64 i, .int .i64 n, .string b] 50) = w1 at HD Hs1 Hb1 a0 a1 a2 a3 a4 ⊢
      have HA := Lib.hid (netAt_any w1 g A c σ HD.out.n i)
      refine HA.out.mono ?_
      rintro e w2 ⟨rfl, hb2⟩
      obtain ⟨hbx, hgx, hsx⟩ := alloc1 w2 #[.int .i64 (pAt σ i).1, .string (pAt σ i).2] 70
      have hb := hb2.trans (hbx.mono (B' := w1.heap.size) hb2.size)
      have HD2 := Lib.hid (HD.out.chg (F := fun _ => False) (.of_below hb) (fun _ _ f => f))
      have a2 := (hb.cell (p := ⟨w.heap.size, 2, none⟩) (by have := Hs1.out; simp only; omega)).trans a2
      have HR := Lib.hid (refAt_any _ g' A' c' σ HD2.out.r i)
      have Hgx := Lib.hid hgx
      have HB2 := Lib.hid (show Below w.heap.size w (w2.alloc _) from Hb1.out.trans (hb.mono (B' := w.heap.size) Hb1.out.size))
      clear hb hbx hgx hsx hb2 a0 a1 a3 a4
      go_wp2_with fail
      generalize w2.alloc (.cells #[.int .i64 (pAt σ i).1, .string (pAt σ i).2] 70) = w3 at HD2 a2 HR Hgx HB2 ⊢
      refine HR.out.mono ?_
      rintro e w4 ⟨rfl, hb4⟩
      obtain ⟨hby, hgy, hsy⟩ := alloc1 w4 #[.int .i64 (pAt σ i).1, .string (pAt σ i).2] 70
      have hb := hb4.trans (hby.mono (B' := w3.heap.size) hb4.size)
      have hgx := (hb.block w2.heap.size (Array.getElem?_eq_some_iff.1 Hgx.out).1).trans Hgx.out
      have Hfin := Lib.hid (((HD2.out.chg (F := fun _ => False) (.of_below hb) (fun _ _ f => f)).same))
      have HB4 := Lib.hid (HB2.out.trans (hb.mono (B' := w.heap.size) HB2.out.size))
      obtain ⟨x0, x1, _, _⟩ := cells2 hgx
      obtain ⟨y0, y1, _, _⟩ := cells2 hgy
      clear hb hby hgy hsy hb4 hgx a2
      go_wp2_with fail
      go_ret
      exact ⟨rfl, Hfin.out.from HB4.out⟩
    · rw [if_neg k1]
      by_cases k2 : kd.tmod 7 = 2
      · rw [if_pos k2]
        go_enter Try.func29, Try.ntmps29
        go_wp2_with fail
        generalize w.alloc (.cells #[.int .i64 kd, .int .i64 to, .int .i64 i, .int .i64 n, .string b] 50) = w1 at HD Hs1 Hb1 a0 a1 a2 a3 a4 ⊢
        have HA := Lib.hid (netTake_any w1 g A c σ Hok.out HD.out.n i)
        refine HA.out.mono ?_
        rintro e w2 ⟨rfl, hp⟩
        obtain ⟨A2, c2, hD2, n2, C2⟩ := HD.out.onN hp
        obtain ⟨hbx, hgx, hsx⟩ := alloc1 w2 #[.int .i64 (pAt σ i).1, .string (pAt σ i).2] 70
        have HD2 := Lib.hid (hD2.chg (F := fun _ => False) (.of_below hbx) (fun _ _ f => f))
        have a2 := C2.cell a2 (fun hh => HF.out (.inl hh))
        have a2 := (hbx.cell (p := ⟨w.heap.size, 2, none⟩) (by have := Hs1.out; have := C2.size; simp only; omega)).trans a2
        have HR := Lib.hid (refTake_any _ g' A' c' σ Hok.out HD2.out.r i)
        have Hgx := Lib.hid hgx
        have Hx := Lib.hid (show ¬ Foot g' A' w2.heap.size from fun hh => by have := hD2.r.foot _ hh; omega)
        have Hn2 := Lib.hid n2
        have HC2 := Lib.hid C2
        have Hbx := Lib.hid hbx
        clear hp hD2 hbx hgx hsx n2 C2 a0 a1 a3 a4
        go_wp2_with fail
        generalize w2.alloc (.cells #[.int .i64 (pAt σ i).1, .string (pAt σ i).2] 70) = w3 at HD2 a2 HR Hgx Hbx ⊢
        refine HR.out.mono ?_
        rintro e w4 ⟨rfl, hp⟩
        obtain ⟨A4, c4, hD4, n4, C4⟩ := HD2.out.onR hp
        obtain ⟨hby, hgy, hsy⟩ := alloc1 w4 #[.int .i64 (pAt σ i).1, .string (pAt σ i).2] 70
        have hgx := (C4.block w2.heap.size (Array.getElem?_eq_some_iff.1 Hgx.out).1 Hx.out).trans Hgx.out
        have hgx := (hby.block w2.heap.size (Array.getElem?_eq_some_iff.1 hgx).1).trans hgx
        have Hfin := Lib.hid (((duo_both hD4 Hn2.out HC2.out Hbx.out n4 C4).then hby).from Hb1.out)
        obtain ⟨x0, x1, _, _⟩ := cells2 hgx
        obtain ⟨y0, y1, _, _⟩ := cells2 hgy
        clear hby hgy hsy hgx a2 hp hD4 n4 C4
        go_wp2_with fail
        go_ret
        exact ⟨rfl, Hfin.out⟩
      · rw [if_neg k2]
        by_cases k3 : kd.tmod 7 = 3
        · rw [if_pos k3]
          go_enter Try.func29, Try.ntmps29
          go_wp2_with fail
          generalize w.alloc (.cells #[.int .i64 kd, .int .i64 to, .int .i64 i, .int .i64 n, .string b] 50) = w1 at HD Hs1 Hb1 a0 a1 a2 a3 a4 ⊢
          have q2 := fun w' (hk : KeepP (F2 g A g' A') w1.drew w') => hk.cell (p := ⟨w.heap.size, 2, none⟩) a2 HF.out
          clear a0 a1 a2 a3 a4
          refine wp_region_mix3 (KeepP (F2 g A g' A')) (KeepP.refl (F2 g A g' A')) (KeepP.trans (F2 g A g' A')) [] [(0, 0), (0, 1), (0, 4), (0, 5), (1, 2), (1, 6), (2, 3), (2, 7), (0, 8), (0, 9)] (by kernel_rfl) (by kernel_rfl) (fun d _ _ _ _ h => by cases d <;> exact h) ?_
          repeat (first
            | (refine mix3_free (v := ?_) rfl rfl ?_ (mix3_norm (a' := ?_) ?_ ?_)
               rotate_left
               focus (intro w'; go_simp; first | done | (with_reducible rfl))
               rotate_left
               focus (simp only [Act.put, List.getElem_toArray, List.getElem_cons_zero, List.getElem_cons_succ, List.setIfInBounds_toArray, List.set_cons_zero, List.set_cons_succ]; rfl))
            | (refine mix3_pure (v := ?_) rfl rfl ?_ (mix3_norm (a' := ?_) ?_ ?_)
               rotate_left
               focus (intro w' hR; go_simp; first | done | (with_reducible rfl))
               rotate_left
               focus (simp only [Act.put, List.getElem_toArray, List.getElem_cons_zero, List.getElem_cons_succ, List.setIfInBounds_toArray, List.set_cons_zero, List.set_cons_succ]; rfl))
            | (refine mix3_freeOff rfl rfl (mix3_norm (a' := ?_) ?_ ?_)
               rotate_left
               focus (simp only [Act.put, List.getElem_toArray, List.getElem_cons_zero, List.getElem_cons_succ, List.setIfInBounds_toArray, List.set_cons_zero, List.set_cons_succ]; rfl))
            | (refine mix3_off rfl rfl (mix3_norm (a' := ?_) ?_ ?_)
               rotate_left
               focus (simp only [Act.put, List.getElem_toArray, List.getElem_cons_zero, List.getElem_cons_succ, List.setIfInBounds_toArray, List.set_cons_zero, List.set_cons_succ]; rfl)))
          clear q2
          have hD5 := HD.out.chg (F := fun _ => False) ((Chg.refl _ w1).drew) (fun _ _ f => f)
          have HB5 := Lib.hid (show Below w1.heap.size w1 w1.drew from (Below.refl w1.heap.size w1).drew)
          refine mix3_eff rfl ?_
          simp only [List.getElem_toArray, List.getElem_cons_zero, List.getElem_cons_succ]
          have HS := Lib.hid (netLose_any w1.drew g A c σ Hok.out hD5.n i)
          have HD5 := Lib.hid hD5
          clear hD5
          go_wp2_with fail
          refine HS.out.mono ?_
          rintro e w6 ⟨rfl, hp⟩
          obtain ⟨A6, c6, hD6, n6, C6⟩ := HD5.out.onN hp
          go_wp2_with fail
          refine mixQ3_normal (KeepP.of_chg C6 (fun _ _ f => .inl f)) rfl ?_
          have HR := Lib.hid (refLose_any w6 g' A' c' σ Hok.out hD6.r i)
          have HD6 := Lib.hid hD6
          have HN6 := Lib.hid n6
          have HC6 := Lib.hid C6
          clear hp hD6 n6 C6
          refine mix3_eff rfl ?_
          simp only [List.getElem_toArray, List.getElem_cons_zero, List.getElem_cons_succ]
          go_wp2_with fail
          refine HR.out.mono ?_
          rintro e w7 ⟨rfl, hp⟩
          obtain ⟨A7, c7, hD7, n7, C7⟩ := HD6.out.onR hp
          have Hfin := Lib.hid (((duo_both hD7 HN6.out HC6.out (Below.refl _ _) n7 C7).from HB5.out).from Hb1.out)
          go_wp2_with fail
          refine mixQ3_normal (KeepP.of_chg C7 (fun _ _ f => .inr f)) rfl ?_
          clear hp hD7 n7 C7
          repeat (first
            | (refine mix3_free (v := ?_) rfl rfl ?_ (mix3_norm (a' := ?_) ?_ ?_)
               rotate_left
               focus (intro w'; go_simp; first | done | (with_reducible rfl))
               rotate_left
               focus (simp only [Act.put, List.getElem_toArray, List.getElem_cons_zero, List.getElem_cons_succ, List.setIfInBounds_toArray, List.set_cons_zero, List.set_cons_succ]; rfl))
            | (refine mix3_pure (v := ?_) rfl rfl ?_ (mix3_norm (a' := ?_) ?_ ?_)
               rotate_left
               focus (intro w' hR; go_simp; first | done | (with_reducible rfl))
               rotate_left
               focus (simp only [Act.put, List.getElem_toArray, List.getElem_cons_zero, List.getElem_cons_succ, List.setIfInBounds_toArray, List.set_cons_zero, List.set_cons_succ]; rfl))
            | (refine mix3_freeOff rfl rfl (mix3_norm (a' := ?_) ?_ ?_)
               rotate_left
               focus (simp only [Act.put, List.getElem_toArray, List.getElem_cons_zero, List.getElem_cons_succ, List.setIfInBounds_toArray, List.set_cons_zero, List.set_cons_succ]; rfl))
            | (refine mix3_off rfl rfl (mix3_norm (a' := ?_) ?_ ?_)
               rotate_left
               focus (simp only [Act.put, List.getElem_toArray, List.getElem_cons_zero, List.getElem_cons_succ, List.setIfInBounds_toArray, List.set_cons_zero, List.set_cons_succ]; rfl)))
          refine mix3_done ?_
          go_wp2_with fail
          go_ret
          exact ⟨rfl, Hfin.out⟩
        · rw [if_neg k3]
          by_cases k4 : kd.tmod 7 = 4
          · rw [if_pos k4]
            go_enter Try.func29, Try.ntmps29
            go_wp2_with fail
            generalize w.alloc (.cells #[.int .i64 kd, .int .i64 to, .int .i64 i, .int .i64 n, .string b] 50) = w1 at HD Hs1 Hb1 a0 a1 a2 a3 a4 ⊢
            have q2 := fun w' (hk : KeepP (F2 g A g' A') w1.drew w') => hk.cell (p := ⟨w.heap.size, 2, none⟩) a2 HF.out
            clear a0 a1 a2 a3 a4
            refine wp_region_mix3 (KeepP (F2 g A g' A')) (KeepP.refl (F2 g A g' A')) (KeepP.trans (F2 g A g' A')) [] [(0, 0), (0, 1), (0, 4), (0, 5), (1, 2), (1, 6), (2, 3), (2, 7), (0, 8), (0, 9)] (by kernel_rfl) (by kernel_rfl) (fun d _ _ _ _ h => by cases d <;> exact h) ?_
            repeat (first
              | (refine mix3_free (v := ?_) rfl rfl ?_ (mix3_norm (a' := ?_) ?_ ?_)
                 rotate_left
                 focus (intro w'; go_simp; first | done | (with_reducible rfl))
                 rotate_left
                 focus (simp only [Act.put, List.getElem_toArray, List.getElem_cons_zero, List.getElem_cons_succ, List.setIfInBounds_toArray, List.set_cons_zero, List.set_cons_succ]; rfl))
              | (refine mix3_pure (v := ?_) rfl rfl ?_ (mix3_norm (a' := ?_) ?_ ?_)
                 rotate_left
                 focus (intro w' hR; go_simp; first | done | (with_reducible rfl))
                 rotate_left
                 focus (simp only [Act.put, List.getElem_toArray, List.getElem_cons_zero, List.getElem_cons_succ, List.setIfInBounds_toArray, List.set_cons_zero, List.set_cons_succ]; rfl))
              | (refine mix3_freeOff rfl rfl (mix3_norm (a' := ?_) ?_ ?_)
                 rotate_left
                 focus (simp only [Act.put, List.getElem_toArray, List.getElem_cons_zero, List.getElem_cons_succ, List.setIfInBounds_toArray, List.set_cons_zero, List.set_cons_succ]; rfl))
              | (refine mix3_off rfl rfl (mix3_norm (a' := ?_) ?_ ?_)
                 rotate_left
                 focus (simp only [Act.put, List.getElem_toArray, List.getElem_cons_zero, List.getElem_cons_succ, List.setIfInBounds_toArray, List.set_cons_zero, List.set_cons_succ]; rfl)))
            clear q2
            have hD5 := HD.out.chg (F := fun _ => False) ((Chg.refl _ w1).drew) (fun _ _ f => f)
            have HB5 := Lib.hid (show Below w1.heap.size w1 w1.drew from (Below.refl w1.heap.size w1).drew)
            refine mix3_eff rfl ?_
            simp only [List.getElem_toArray, List.getElem_cons_zero, List.getElem_cons_succ]
            have HS := Lib.hid (netTwice_any w1.drew g A c σ Hok.out hD5.n i)
            have HD5 := Lib.hid hD5
            clear hD5
            go_wp2_with fail
            refine HS.out.mono ?_
            rintro e w6 ⟨rfl, hp⟩
            obtain ⟨A6, c6, hD6, n6, C6⟩ := HD5.out.onN hp
            go_wp2_with fail
            refine mixQ3_normal (KeepP.of_chg C6 (fun _ _ f => .inl f)) rfl ?_
            have HR := Lib.hid (refTwice_any w6 g' A' c' σ Hok.out hD6.r i)
            have HD6 := Lib.hid hD6
            have HN6 := Lib.hid n6
            have HC6 := Lib.hid C6
            clear hp hD6 n6 C6
            refine mix3_eff rfl ?_
            simp only [List.getElem_toArray, List.getElem_cons_zero, List.getElem_cons_succ]
            go_wp2_with fail
            refine HR.out.mono ?_
            rintro e w7 ⟨rfl, hp⟩
            obtain ⟨A7, c7, hD7, n7, C7⟩ := HD6.out.onR hp
            have Hfin := Lib.hid (((duo_both hD7 HN6.out HC6.out (Below.refl _ _) n7 C7).from HB5.out).from Hb1.out)
            go_wp2_with fail
            refine mixQ3_normal (KeepP.of_chg C7 (fun _ _ f => .inr f)) rfl ?_
            clear hp hD7 n7 C7
            repeat (first
              | (refine mix3_free (v := ?_) rfl rfl ?_ (mix3_norm (a' := ?_) ?_ ?_)
                 rotate_left
                 focus (intro w'; go_simp; first | done | (with_reducible rfl))
                 rotate_left
                 focus (simp only [Act.put, List.getElem_toArray, List.getElem_cons_zero, List.getElem_cons_succ, List.setIfInBounds_toArray, List.set_cons_zero, List.set_cons_succ]; rfl))
              | (refine mix3_pure (v := ?_) rfl rfl ?_ (mix3_norm (a' := ?_) ?_ ?_)
                 rotate_left
                 focus (intro w' hR; go_simp; first | done | (with_reducible rfl))
                 rotate_left
                 focus (simp only [Act.put, List.getElem_toArray, List.getElem_cons_zero, List.getElem_cons_succ, List.setIfInBounds_toArray, List.set_cons_zero, List.set_cons_succ]; rfl))
              | (refine mix3_freeOff rfl rfl (mix3_norm (a' := ?_) ?_ ?_)
                 rotate_left
                 focus (simp only [Act.put, List.getElem_toArray, List.getElem_cons_zero, List.getElem_cons_succ, List.setIfInBounds_toArray, List.set_cons_zero, List.set_cons_succ]; rfl))
              | (refine mix3_off rfl rfl (mix3_norm (a' := ?_) ?_ ?_)
                 rotate_left
                 focus (simp only [Act.put, List.getElem_toArray, List.getElem_cons_zero, List.getElem_cons_succ, List.setIfInBounds_toArray, List.set_cons_zero, List.set_cons_succ]; rfl)))
            refine mix3_done ?_
            go_wp2_with fail
            go_ret
            exact ⟨rfl, Hfin.out⟩
          · rw [if_neg k4]
            by_cases k5 : kd.tmod 7 = 5
            · rw [if_pos k5]
              go_enter Try.func29, Try.ntmps29
              go_wp2_with fail
              generalize w.alloc (.cells #[.int .i64 kd, .int .i64 to, .int .i64 i, .int .i64 n, .string b] 50) = w1 at HD Hs1 Hb1 a0 a1 a2 a3 a4 ⊢
              have q2 := fun w' (hk : KeepP (F2 g A g' A') w1.drew w') => hk.cell (p := ⟨w.heap.size, 2, none⟩) a2 HF.out
              have q3 := fun w' (hk : KeepP (F2 g A g' A') w1.drew w') => hk.cell (p := ⟨w.heap.size, 3, none⟩) a3 HF.out
              clear a0 a1 a2 a3 a4
              refine wp_region_mix3 (KeepP (F2 g A g' A')) (KeepP.refl (F2 g A g' A')) (KeepP.trans (F2 g A g' A')) [] [(0, 0), (0, 1), (0, 3), (0, 6), (0, 7), (0, 9), (1, 2), (1, 4), (1, 8), (1, 10), (2, 5), (2, 11), (0, 12), (0, 13)] (by kernel_rfl) (by kernel_rfl) (fun d _ _ _ _ h => by cases d <;> exact h) ?_
              repeat (first
                | (refine mix3_free (v := ?_) rfl rfl ?_ (mix3_norm (a' := ?_) ?_ ?_)
                   rotate_left
                   focus (intro w'; go_simp; first | done | (with_reducible rfl))
                   rotate_left
                   focus (simp only [Act.put, List.getElem_toArray, List.getElem_cons_zero, List.getElem_cons_succ, List.setIfInBounds_toArray, List.set_cons_zero, List.set_cons_succ]; rfl))
                | (refine mix3_pure (v := ?_) rfl rfl ?_ (mix3_norm (a' := ?_) ?_ ?_)
                   rotate_left
                   focus (intro w' hR; go_simp; first | done | (with_reducible rfl))
                   rotate_left
                   focus (simp only [Act.put, List.getElem_toArray, List.getElem_cons_zero, List.getElem_cons_succ, List.setIfInBounds_toArray, List.set_cons_zero, List.set_cons_succ]; rfl))
                | (refine mix3_freeOff rfl rfl (mix3_norm (a' := ?_) ?_ ?_)
                   rotate_left
                   focus (simp only [Act.put, List.getElem_toArray, List.getElem_cons_zero, List.getElem_cons_succ, List.setIfInBounds_toArray, List.set_cons_zero, List.set_cons_succ]; rfl))
                | (refine mix3_off rfl rfl (mix3_norm (a' := ?_) ?_ ?_)
                   rotate_left
                   focus (simp only [Act.put, List.getElem_toArray, List.getElem_cons_zero, List.getElem_cons_succ, List.setIfInBounds_toArray, List.set_cons_zero, List.set_cons_succ]; rfl)))
              clear q2 q3
              have hD5 := HD.out.chg (F := fun _ => False) ((Chg.refl _ w1).drew) (fun _ _ f => f)
              have HB5 := Lib.hid (show Below w1.heap.size w1 w1.drew from (Below.refl w1.heap.size w1).drew)
              refine mix3_eff rfl ?_
              simp only [List.getElem_toArray, List.getElem_cons_zero, List.getElem_cons_succ]
              have HS := Lib.hid (netCut_any w1.drew g A c σ hD5.n i n)
              have HD5 := Lib.hid hD5
              clear hD5
              go_wp2_with fail
              refine HS.out.mono ?_
              rintro e w6 ⟨rfl, hp⟩
              obtain ⟨A6, c6, hD6, n6, C6⟩ := HD5.out.onN hp
              go_wp2_with fail
              refine mixQ3_normal (KeepP.of_chg C6 (fun _ _ f => .inl f)) rfl ?_
              have HR := Lib.hid (refCut_any w6 g' A' c' σ hD6.r i n)
              have HD6 := Lib.hid hD6
              have HN6 := Lib.hid n6
              have HC6 := Lib.hid C6
              clear hp hD6 n6 C6
              refine mix3_eff rfl ?_
              simp only [List.getElem_toArray, List.getElem_cons_zero, List.getElem_cons_succ]
              go_wp2_with fail
              refine HR.out.mono ?_
              rintro e w7 ⟨rfl, hp⟩
              obtain ⟨A7, c7, hD7, n7, C7⟩ := HD6.out.onR hp
              have Hfin := Lib.hid (((duo_both hD7 HN6.out HC6.out (Below.refl _ _) n7 C7).from HB5.out).from Hb1.out)
              go_wp2_with fail
              refine mixQ3_normal (KeepP.of_chg C7 (fun _ _ f => .inr f)) rfl ?_
              clear hp hD7 n7 C7
              repeat (first
                | (refine mix3_free (v := ?_) rfl rfl ?_ (mix3_norm (a' := ?_) ?_ ?_)
                   rotate_left
                   focus (intro w'; go_simp; first | done | (with_reducible rfl))
                   rotate_left
                   focus (simp only [Act.put, List.getElem_toArray, List.getElem_cons_zero, List.getElem_cons_succ, List.setIfInBounds_toArray, List.set_cons_zero, List.set_cons_succ]; rfl))
                | (refine mix3_pure (v := ?_) rfl rfl ?_ (mix3_norm (a' := ?_) ?_ ?_)
                   rotate_left
                   focus (intro w' hR; go_simp; first | done | (with_reducible rfl))
                   rotate_left
                   focus (simp only [Act.put, List.getElem_toArray, List.getElem_cons_zero, List.getElem_cons_succ, List.setIfInBounds_toArray, List.set_cons_zero, List.set_cons_succ]; rfl))
                | (refine mix3_freeOff rfl rfl (mix3_norm (a' := ?_) ?_ ?_)
                   rotate_left
                   focus (simp only [Act.put, List.getElem_toArray, List.getElem_cons_zero, List.getElem_cons_succ, List.setIfInBounds_toArray, List.set_cons_zero, List.set_cons_succ]; rfl))
                | (refine mix3_off rfl rfl (mix3_norm (a' := ?_) ?_ ?_)
                   rotate_left
                   focus (simp only [Act.put, List.getElem_toArray, List.getElem_cons_zero, List.getElem_cons_succ, List.setIfInBounds_toArray, List.set_cons_zero, List.set_cons_succ]; rfl)))
              refine mix3_done ?_
              go_wp2_with fail
              go_ret
              exact ⟨rfl, Hfin.out⟩
            · rw [if_neg k5]
              go_enter Try.func29, Try.ntmps29
              go_wp2_with fail
              generalize w.alloc (.cells #[.int .i64 kd, .int .i64 to, .int .i64 i, .int .i64 n, .string b] 50) = w1 at HD Hs1 Hb1 a0 a1 a2 a3 a4 ⊢
              have HA := Lib.hid (netDrop_any w1 g A c σ Hok.out HD.out.n)
              refine HA.out.mono ?_
              rintro e w2 ⟨rfl, hp⟩
              obtain ⟨A2, c2, hD2, n2, C2⟩ := HD.out.onN hp
              have HR := Lib.hid (refDrop_any _ g' A' c' σ Hok.out hD2.r)
              have HD2 := Lib.hid hD2
              have Hn2 := Lib.hid n2
              have HC2 := Lib.hid C2
              clear hp hD2 n2 C2 a0 a1 a2 a3 a4
              go_wp2_with fail
              refine HR.out.mono ?_
              rintro e w4 ⟨rfl, hp⟩
              obtain ⟨A4, c4, hD4, n4, C4⟩ := HD2.out.onR hp
              have Hfin := Lib.hid ((duo_both hD4 Hn2.out HC2.out (Below.refl _ _) n4 C4).from Hb1.out)
              clear hp hD4 n4 C4
              go_wp2_with fail
              go_ret
              exact ⟨rfl, Hfin.out⟩
end Go.Proofs.Ytiolfnnkkflaiaa
