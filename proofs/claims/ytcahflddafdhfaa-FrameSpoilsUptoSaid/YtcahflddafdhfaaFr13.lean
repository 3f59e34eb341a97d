/- The reference's reader with its bytes ahead of it; the world in the midst of the reference's frame.Get. -/
import Derived.Test.YtcahflddafdhfaaFr12
import Derived.Test.YtcahflddafdhfaaFrMath
import Derived.Test.YtcahflddafdhfaaRefReader
open Go.RowKit
namespace Go.Proofs.Ytcahflddafdhfaa

/-- Block g is a reference's reader in the state s; its bytes lie in blocks ahead of g. -/
def IsSB (w : World) (g : Nat) (s : RdS) : Prop :=
  ∃ A c B k, IsS w g A c B k s.2 ∧ B.drop k = s.1 ∧ ∀ W, SameTo g w W → Reads W 1 A B.length (bv B)
section
variable {w w' : World} {g : Nat} {s : RdS}
theorem IsSB.lt (h : IsSB w g s) : g < w.heap.size := by
  obtain ⟨A, c, B, k, h1, _⟩ := h
  exact h1.lt
theorem IsSB.keep (h : IsSB w g s) (h' : SameTo (g + 1) w w') : IsSB w' g s := by
  obtain ⟨A, c, B, k, h1, h2, h3⟩ := h
  exact ⟨A, c, B, k, ⟨(h' g (by omega)).trans h1.1, h3 w' (fun i hi => h' i (by omega)), h1.2.2⟩, h2, fun W hW => h3 W (SameTo.trans (fun i hi => h' i (by omega)) hW)⟩
theorem IsSB.below (h : IsSB w g s) (hb : Below w.heap.size w w') : IsSB w' g s := h.keep (fun k hk => hb.block k (by have := h.lt; omega))
end
/-- What a step of it leaves. -/
def QPost (w : World) (g : Nat) (s : RdS) (w' : World) : Prop := IsSB w' g s ∧ Chg (fun i => i = g) w w'
theorem keepsTo {w W : World} {g : Nat} (hg : g ≤ w.heap.size) (h : KeepsBut [g] w W) : SameTo g w W := fun k hk => h.2 k (by omega) (by simp; omega)
theorem newSB {w : World} {A : Option Addr} {c : Nat} {B : List UInt8} (hr : Reads w 1 A B.length (bv B)) (hc : B.length ≤ c) (hm : B.length ≤ maxLen) :
    IsSB (w.alloc (.cells #[.slice A B.length c, .int .i64 0, .int .i64 0] 81)) w.heap.size (B, 0) := by
  have hk : ∀ W, SameTo w.heap.size (w.alloc (.cells #[.slice A B.length c, .int .i64 0, .int .i64 0] 81)) W → Reads W 1 A B.length (bv B) := fun W hW =>
    hr.keep fun p u hp => by
      have hlt := World.block_lt_of_cell? _ _ hp
      have h2 := hW _ hlt
      rw [heap_alloc_old _ _ hlt] at h2
      rw [← hp]
      unfold World.cell?
      rw [h2]
  exact ⟨A, c, B, 0, ⟨heap_alloc_new _ _, hk _ (SameTo.refl _ _), hc, hm, Nat.zero_le _⟩, List.drop_zero, hk⟩

theorem numSB_any {w : World} {g : Nat} {s : RdS} (h : IsSB w g s) (x : Nat) :
    Calls Try.prog 49 #[.pointer (some ⟨g, 0, none⟩), .int .i64 (x : Int)] w fun r w' => r = .returned (.int .u64 (nN s x : Nat)) ∧ QPost w g (nS s x) w' := by
  obtain ⟨A, c, B, k, h1, h2, h3⟩ := h
  refine (refNum_any g A c B k s.2 (x : Int) w h1).mono ?_
  rintro r w' ⟨e1, ⟨k', e2, e3⟩, e4⟩
  rw [h2] at e1 e2 e3
  refine ⟨by rw [e1]; unfold nN; rfl, ⟨A, c, B, k', ?_, ?_, fun W hW => h3 W ((SameTo.grown h1.lt e4).trans hW)⟩, (Chg.of_grown e4).mono (fun i _ hi => Option.some.inj hi)⟩
  · unfold nS; exact e2
  · unfold nS; exact e3
theorem bytesSB_any {w : World} {g : Nat} {s : RdS} (h : IsSB w g s) (x : Nat) :
    Calls Try.prog 50 #[.pointer (some ⟨g, 0, none⟩), .int .i64 (x : Int)] w fun r w' => ∃ A1 n c1, r = .returned (.slice A1 n c1) ∧ (∀ W, SameTo g w' W → (convert 25 9 (.slice A1 n c1)).run Try.prog W = .ok (.string (tN s x)) W) ∧ QPost w g (tS s x) w' := by
  obtain ⟨A, c, B, k, h1, h2, h3⟩ := h
  refine (refBytes_any g A c B k s.2 (x : Int) w h1).mono ?_
  rintro r w' ⟨A1, c1, e1, er, ⟨k', e2, e3⟩, e4⟩
  rw [h2] at e1 e2 e3 er
  have hs := SameTo.grown h1.lt e4
  refine ⟨A1, _, c1, e1, fun W hW => ?_, ⟨A, c, B, k', ?_, ?_, fun W hW => h3 W (hs.trans hW)⟩, (Chg.of_grown e4).mono (fun i _ hi => Option.some.inj hi)⟩
  · have h4 := run_string_of_bytes c1 (er W (h3 W (hs.trans hW)))
    unfold tN
    exact h4
  · unfold tS; exact e2
  · unfold tS; exact e3
/-- In the midst of it: the result's cells at b2, the reader at g, the frame at bf, its list's texts at A, behind all those. -/
structure QS (w0 : World) (b2 g bf : Nat) (cs : Array Value) (A : Option Addr) (c : Nat) (L : List ByteArray) (s : RdS) (w : World) : Prop where
  b : Below w0.heap.size w0 w
  h2 : w.heap[b2]? = some (.cells fr0c 41 (0, 0))
  hbf : w.heap[bf]? = some (.cells cs 41 (0, 0))
  rd : IsSB w g s
  row : SRow w A c L
  n2 : w0.heap.size ≤ b2
  n3 : b2 < g
  n5 : g < bf
  n6 : ∀ k, blk A = some k → bf < k
/-- As QS, ahead of the frame's own block. -/
structure QS0 (w0 : World) (b2 g : Nat) (s : RdS) (w : World) : Prop where
  b : Below w0.heap.size w0 w
  h2 : w.heap[b2]? = some (.cells fr0c 41 (0, 0))
  rd : IsSB w g s
  n2 : w0.heap.size ≤ b2
  n3 : b2 < g
section
variable {w0 w w' : World} {b2 g bf : Nat} {cs : Array Value} {A : Option Addr} {c : Nat} {L : List ByteArray} {s s' : RdS}
theorem QS.lt (h : QS w0 b2 g bf cs A c L s w) : bf < w.heap.size := (Array.getElem?_eq_some_iff.1 h.hbf).1
theorem QS0.step (h : QS0 w0 b2 g s w) (hp : QPost w g s' w') : QS0 w0 b2 g s' w' := by
  have hlt := h.rd.lt
  have n2 := h.n2; have n3 := h.n3
  exact ⟨h.b.trans (hp.2.below (fun i hi e => by omega) h.b.size), (hp.2.block b2 (by omega) (by omega)).trans h.h2, hp.1, n2, n3⟩
theorem QS.step (h : QS w0 b2 g bf cs A c L s w) (hp : QPost w g s' w') : QS w0 b2 g bf cs A c L s' w' := by
  have hlt := h.lt
  have n2 := h.n2; have n3 := h.n3; have n5 := h.n5
  exact ⟨h.b.trans (hp.2.below (fun i hi e => by omega) h.b.size), (hp.2.block b2 (by omega) (by omega)).trans h.h2, (hp.2.block bf hlt (by omega)).trans h.hbf, hp.1,
    h.row.chg hp.2 (fun k hk e => by have := h.n6 k hk; omega), n2, n3, n5, h.n6⟩
theorem QS.below (h : QS w0 b2 g bf cs A c L s w) (hb : Below w.heap.size w w') : QS w0 b2 g bf cs A c L s w' := by
  have hlt := h.lt
  have n2 := h.n2; have n3 := h.n3; have n5 := h.n5
  exact ⟨h.b.trans (hb.mono h.b.size), (hb.block b2 (by omega)).trans h.h2, (hb.block bf hlt).trans h.hbf, h.rd.below hb, h.row.below hb, n2, n3, n5, h.n6⟩
theorem QS0.below (h : QS0 w0 b2 g s w) (hb : Below w.heap.size w w') : QS0 w0 b2 g s w' := by
  have hlt := h.rd.lt
  have n2 := h.n2; have n3 := h.n3
  exact ⟨h.b.trans (hb.mono h.b.size), (hb.block b2 (by omega)).trans h.h2, h.rd.below hb, n2, n3⟩
theorem QS.set (h : QS w0 b2 g bf cs A c L s w) (j : Nat) (v : Value) : QS w0 b2 g bf (cs.setIfInBounds j v) A c L s (w.setCell ⟨bf, j, none⟩ v) := by
  have hlt := h.lt
  have n2 := h.n2; have n3 := h.n3; have n5 := h.n5
  have hc : Chg (fun i => i = bf) w (w.setCell ⟨bf, j, none⟩ v) := (Chg.refl _ w).set bf j v (fun _ => rfl)
  exact ⟨h.b.trans (hc.below (fun i hi e => by omega) h.b.size), (hc.block b2 (by omega) (by omega)).trans h.h2, by rw [heap_setCell_same _ _ _ _ _ _ h.hbf],
    h.rd.keep (fun k hk => hc.block k (by omega) (by omega)), h.row.chg hc (fun k hk e => by have := h.n6 k hk; omega), n2, n3, n5, h.n6⟩
theorem QS.rowTo (h : QS w0 b2 g bf cs A c L s w) {A1 : Option Addr} {c1 : Nat} {L1 : List ByteArray} (hr : SRow w' A1 c1 L1) (hc : Chg (fun i => blk A = some i) w w') (hk : ∀ k, blk A1 = some k → blk A = some k ∨ k = w.heap.size) : QS w0 b2 g bf cs A1 c1 L1 s w' := by
  have hlt := h.lt
  have n2 := h.n2; have n3 := h.n3; have n5 := h.n5
  exact ⟨h.b.trans (hc.below (fun i hi e => by have := h.n6 i e; omega) h.b.size), (hc.block b2 (by omega) (fun e => by have := h.n6 _ e; omega)).trans h.h2, (hc.block bf (by omega) (fun e => by have := h.n6 _ e; omega)).trans h.hbf,
    h.rd.keep (fun k hk => hc.block k (by omega) (fun e => by have := h.n6 _ e; omega)), hr, n2, n3, n5, fun k h1 => by rcases hk k h1 with h2 | h2; exact h.n6 k h2; omega⟩
/-- The frame's block laid. -/
theorem QS0.frame (h : QS0 w0 b2 g s w) (x : Array Value) : QS w0 b2 g w.heap.size x none 0 [] s (w.alloc (.cells x 41)) := by
  have h1 := h.below (w' := w.alloc (.cells x 41)) (alloc1 w _ _).1
  exact ⟨h1.b, h1.h2, (alloc1 w _ _).2.1, h1.rd, SRow.nil _, h1.n2, h1.n3, h.rd.lt, by simp [blk]⟩
theorem QS.drew (h : QS w0 b2 g bf cs A c L s w) : QS w0 b2 g bf cs A c L s w.drew := h.below ((Below.refl _ _).drew)
theorem QS.fin (h : QS w0 b2 g bf cs A c L s w) (hc : Chg (fun i => i = b2) w w') : SOut w0 w' A c L := by
  have n2 := h.n2; have n3 := h.n3; have n5 := h.n5
  exact ⟨h.row.chg hc (fun k hk e => by have := h.n6 k hk; omega), fun k hk => by have := h.n6 k hk; omega, h.b.trans (hc.below (fun i hi e => by omega) h.b.size)⟩
theorem QS.zero (h : QS w0 b2 g bf cs A c L s w) (hc : Chg (fun i => i = b2) w w') : Below w0.heap.size w0 w' := (h.fin hc).2.2
end
end Go.Proofs.Ytcahflddafdhfaa
