import Derived.Test.YtebcginnnjigjaaC19
import Derived.Test.YtebcginnnjigjaaC9
import Derived.Test.YtebcginnnjigjaaC8
import Derived.Test.YtebcginnnjigjaaC2
import Derived.Test.YtebcginnnjigjaaC11
section
/- Reading a frame: the reader's steps, and the closures of frame.read. -/
open Go.RowKit
namespace Go.Proofs.Ytebcginnnjigjaa

theorem gNum_lt (l : List UInt8) (a : Int) (k : Nat) : gNum l a (k : Int) < 256 ^ k := by
  unfold gNum
  split
  · have h := beNum_lt ((l.drop a.toNat).take (k : Int).toNat)
    refine Nat.lt_of_lt_of_le h (Nat.pow_le_pow_right (by decide) ?_)
    simp
    omega
  · exact Nat.pow_pos (by decide)
theorem rNum_lt (l : List UInt8) (e : Nat) (k : Nat) : rNum l e (k : Int) < 256 ^ k := by
  unfold rNum
  split
  · exact gNum_lt l 0 k
  · exact Nat.pow_pos (by decide)
theorem wrapI_nat {n : Nat} (h : n < 9223372036854775808) : IntKind.i64.wrap (n : Int) = (n : Int) := by
  unfold IntKind.wrap; simp [IntKind.bits, IntKind.signed]; omega
theorem wrap32_nat {n : Nat} (h : n < 4294967296) : IntKind.u32.wrap (n : Int) = (n : Int) := by
  unfold IntKind.wrap; simp [IntKind.bits, IntKind.signed]; omega

abbrev RdS := List UInt8 × Nat
def nN (s : RdS) (k : Nat) : Nat := rNum s.1 s.2 (k : Int)
def nS (s : RdS) (k : Nat) : RdS := (rNumL s.1 s.2 (k : Int), rNumE s.1 s.2 (k : Int))
def tN (s : RdS) (k : Nat) : ByteArray := ⟨(rBytes s.1 s.2 (k : Int)).toArray⟩
def tS (s : RdS) (k : Nat) : RdS := (rBytesL s.1 s.2 (k : Int), rBytesE s.1 s.2 (k : Int))
theorem nN_lt (s : RdS) (k : Nat) : nN s k < 256 ^ k := rNum_lt _ _ _
/-- The reader at block g, in the state s. -/
def IsRS (w : World) (g : Nat) (s : RdS) : Prop := IsRB w g s.1 s.2
theorem IsRS.lt {w : World} {g : Nat} {s : RdS} (h : IsRS w g s) : g < w.heap.size := IsRB.lt h
theorem IsRS.keep {w w' : World} {g : Nat} {s : RdS} (h : IsRS w g s) (h' : SameTo (g + 1) w w') : IsRS w' g s := IsRB.keep h h'
theorem IsRS.below {w w' : World} {g : Nat} {s : RdS} (h : IsRS w g s) (hb : Below w.heap.size w w') : IsRS w' g s := IsRB.below h hb
/-- What a step of a reader leaves. -/
def RPost (w : World) (g : Nat) (s : RdS) (w' : World) : Prop := IsRS w' g s ∧ Chg (fun i => i = g) w w'
theorem RPost.of {w w' : World} {g : Nat} {s : RdS} (h : IsRS w' g s) (hk : w.grownBy w' (some g)) : RPost w g s w' := ⟨h, (Chg.of_grown hk).mono (fun i _ hi => Option.some.inj hi)⟩

theorem numS_any {w : World} {g : Nat} {s : RdS} (h : IsRS w g s) (k : Nat) :
    Calls Try.prog 58 #[.pointer (some ⟨g, 0, none⟩), .int .i64 (k : Int)] w fun r w' => r = .returned (.int .u64 (nN s k : Nat)) ∧ RPost w g (nS s k) w' := by
  refine (numB_any g s.1 s.2 (k : Int) w h).mono ?_
  rintro r w' ⟨h1, h2, h3⟩
  exact ⟨h1, RPost.of h2 h3⟩
theorem bytesS_any {w : World} {g : Nat} {s : RdS} (h : IsRS w g s) (hl : s.1.length ≤ 140737488355328) (k : Nat) :
    Calls Try.prog 60 #[.pointer (some ⟨g, 0, none⟩), .int .i64 (k : Int)] w fun r w' => ∃ A1 c1, r = .returned (.slice A1 (rBytes s.1 s.2 (k : Int)).length c1) ∧ Reads w' 1 A1 (rBytes s.1 s.2 (k : Int)).length (bv (rBytes s.1 s.2 (k : Int))) ∧ RPost w g (tS s k) w' := by
  refine (bytesB_any g s.1 s.2 (k : Int) w h hl).mono ?_
  rintro r w' ⟨A1, c1, h1, h2, h3, h4⟩
  exact ⟨A1, c1, h1, h2.reads, RPost.of h3 h4⟩

set_option maxRecDepth 100000 in
theorem frNumC_any {w : World} {g br : Nat} {s : RdS} (h : IsRS w g s) (hbox : w.heap[br]? = some (.cells #[.pointer (some ⟨g, 0, none⟩)] 113 (0, 0))) (k : Nat) (hk : nN s k < 9223372036854775808) :
    Calls Try.prog 57 #[.int .i64 (k : Int), .pointer (some ⟨br, 0, none⟩)] w fun r w' => r = .returned (.int .i64 (nN s k : Nat)) ∧ RPost w g (nS s k) w' := by
  have hc := (cells1 hbox).1
  have hw := wrapI_nat hk
  have H := Lib.hid (numS_any h k)
  clear h hbox hk
  go_enter Try.func57, Try.ntmps57
  go_wp2_with fail
  refine H.out.mono ?_
  rintro r w1 ⟨rfl, hp⟩
  go_wp2_with fail
  go_ret
  exact ⟨rfl, hp⟩
set_option maxRecDepth 100000 in
theorem frTextC_any {w : World} {g br : Nat} {s : RdS} (h : IsRS w g s) (hl : s.1.length ≤ 140737488355328) (hbox : w.heap[br]? = some (.cells #[.pointer (some ⟨g, 0, none⟩)] 113 (0, 0))) (k : Nat) :
    Calls Try.prog 59 #[.int .i64 (k : Int), .pointer (some ⟨br, 0, none⟩)] w fun r w' => r = .returned (.string (tN s k)) ∧ RPost w g (tS s k) w' := by
  have hc := (cells1 hbox).1
  have H := Lib.hid (bytesS_any h hl k)
  clear h hbox hl
  go_enter Try.func59, Try.ntmps59
  go_wp2_with fail
  refine H.out.mono ?_
  rintro r w1 ⟨A1, c1, rfl, hr, hp⟩
  have hcv := run_string_of_bytes c1 hr
  have HP := Lib.hid hp
  clear hr hp
  go_wp2_with fail
  go_ret
  exact ⟨rfl, HP.out⟩
theorem nS_len (s : RdS) (k : Nat) : (nS s k).1.length ≤ s.1.length := by
  unfold nS rNumL; dsimp only
  split
  · rw [List.length_drop]; omega
  · exact Nat.le_refl _
theorem tS_len (s : RdS) (k : Nat) : (tS s k).1.length ≤ s.1.length := by
  unfold tS rBytesL; dsimp only
  split
  · rw [List.length_drop]; omega
  · exact Nat.le_refl _
attribute [irreducible] nN nS tN tS
end Go.Proofs.Ytebcginnnjigjaa

end
section
/- Reading a frame: what is read, and the world in the midst of it. -/
open Go.RowKit
namespace Go.Proofs.Ytebcginnnjigjaa

def fr0 : Fr := ⟨0, 0, 0, 0, 0, 0, 0, 0, 0, ⟨#[]⟩, []⟩
def fr0c : Array Value := #[.int .i64 0, .int .u64 0, .int .u64 0, .int .u32 0, .int .u32 0, .int .i64 0, .int .i64 0, .int .i64 0, .int .i64 0, .string ⟨#[]⟩, .slice none 0 0]
theorem fr0_cells : fr0.cells none 0 = fr0c := rfl
def tList (s : RdS) : Nat → List ByteArray × RdS
  | 0 => ([], s)
  | n + 1 => ((tList s n).1 ++ [tN (tList s n).2 32], tS (tList s n).2 32)
def rdS (l : List UInt8) : RdS := nS (nS (nS (nS (nS (l, 0) 1) 8) 8) 4) 2
def rdF (l : List UInt8) : Fr := ⟨(nN (l, 0) 1 : Nat), nN (nS (l, 0) 1) 8, nN (nS (nS (l, 0) 1) 8) 8, nN (nS (nS (nS (l, 0) 1) 8) 8) 4, 0, 0, 0, 0, 0, ⟨#[]⟩, []⟩
def readB (x : Fr) (s : RdS) : Fr × RdS :=
  if (x.k == 7) = true then (x, s)
  else if (x.k == 1) = true then ({ x with v := nN s 4, n := (nN (nS s 4) 2 : Nat), f := (nN (nS (nS s 4) 2) 1 : Nat), d := tN (nS (nS (nS s 4) 2) 1) 32 }, tS (nS (nS (nS s 4) 2) 1) 32)
  else if (x.k == 2) = true then ({ x with c := (nN s 1 : Nat) }, nS s 1)
  else if (x.k == 4) = true then ({ x with i := (nN s 2 : Nat), l := (tList (nS (nS s 2) 1) (nN (nS s 2) 1)).1 }, (tList (nS (nS s 2) 1) (nN (nS s 2) 1)).2)
  else if (x.k == 6) = true then ({ x with i := (nN s 2 : Nat), d := tN (nS s 2) 64 }, tS (nS s 2) 64)
  else ({ x with i := (nN s 2 : Nat) }, nS s 2)
def readF (l : List UInt8) : Fr × RdS := readB (rdF l) (rdS l)
def okS (s : RdS) : Bool := ((s.2 : Int) == 0) && ((rLeft s.1 s.2 : Int) == 4)
theorem tList_len (s : RdS) (n : Nat) : (tList s n).1.length = n := by
  induction n with
  | zero => rfl
  | succ n ih => rw [tList, List.length_append, ih]; rfl
theorem tList_slen (s : RdS) (n : Nat) : (tList s n).2.1.length ≤ s.1.length := by
  induction n with
  | zero => exact Nat.le_refl _
  | succ n ih => rw [tList]; exact Nat.le_trans (tS_len _ _) ih
theorem tList_zero (s : RdS) : tList s 0 = ([], s) := rfl
theorem tList_succ (s : RdS) (n : Nat) : tList s (n + 1) = ((tList s n).1 ++ [tN (tList s n).2 32], tS (tList s n).2 32) := rfl
attribute [irreducible] tList

/-- A fresh row of strings that a function returns. -/
def SOut (w w' : World) (A : Option Addr) (c : Nat) (l : List ByteArray) : Prop := SRow w' A c l ∧ (∀ k, blk A = some k → w.heap.size ≤ k) ∧ Below w.heap.size w w'
theorem append_stn {w : World} {ops : Array Oper} {rest : List Oper} {o : Oper} {a : Act} {Q : Exit → Act → World → Prop} (hgd : o.guard = none) (s x : Operand)
    (ho : o.op = .call { callee := .builtin .append, args := #[s, x], argTypes := #[56, 56] })
    (A : Option Addr) (c : Nat) (ps : List ByteArray) (hs : a.eval s = .slice A ps.length c) (hrow : SRow w A c ps)
    (A' : Option Addr) (c' : Nat) (qs : List ByteArray) (m : Nat) (hm : qs.length = m) (hx : a.eval x = .slice A' m c') (hr : Reads w 1 A' m (sts qs)) (hlen : ps.length + m ≤ 100000)
    (n : List ByteArray) (hn : n = ps ++ qs)
    (h : ∀ A1 c1 w1, SRow w1 A1 c1 n → Chg (fun i => blk A = some i) w w1 → (∀ k, blk A1 = some k → blk A = some k ∨ k = w.heap.size) → wpList Try.prog ops Q rest (a.put o.dst (.slice A1 n.length c1)) w1) : wpList Try.prog ops Q (o :: rest) a w := by
  subst hn
  exact wpList_append_st hgd s x ho A c ps hs hrow A' c' qs m hm hx hr hlen h
/-- In the midst of reading: the result's cells at b2, the reader at g, the box of its variable at br, the frame at bf, its list's texts at A, behind all those. -/
structure RS (w0 : World) (b2 g br bf : Nat) (cs : Array Value) (A : Option Addr) (c : Nat) (L : List ByteArray) (s : RdS) (w : World) : Prop where
  b : Below w0.heap.size w0 w
  h2 : w.heap[b2]? = some (.cells fr0c 58 (0, 0))
  hbr : w.heap[br]? = some (.cells #[.pointer (some ⟨g, 0, none⟩)] 113 (0, 0))
  hbf : w.heap[bf]? = some (.cells cs 58 (0, 0))
  rd : IsRS w g s
  row : SRow w A c L
  n2 : w0.heap.size ≤ b2
  n3 : b2 < g
  n4 : g < br
  n5 : br < bf
  n6 : ∀ k, blk A = some k → bf < k
  len : s.1.length ≤ 140737488355328
/-- As RS, ahead of the frame's own block. -/
structure RS0 (w0 : World) (b2 g br : Nat) (s : RdS) (w : World) : Prop where
  b : Below w0.heap.size w0 w
  h2 : w.heap[b2]? = some (.cells fr0c 58 (0, 0))
  hbr : w.heap[br]? = some (.cells #[.pointer (some ⟨g, 0, none⟩)] 113 (0, 0))
  rd : IsRS w g s
  n2 : w0.heap.size ≤ b2
  n3 : b2 < g
  n4 : g < br
  len : s.1.length ≤ 140737488355328
section
variable {w0 w w' : World} {b2 g br bf : Nat} {cs : Array Value} {A : Option Addr} {c : Nat} {L : List ByteArray} {s s' : RdS}
theorem RS.lt (h : RS w0 b2 g br bf cs A c L s w) : bf < w.heap.size := (Array.getElem?_eq_some_iff.1 h.hbf).1
theorem RS0.lt (h : RS0 w0 b2 g br s w) : br < w.heap.size := (Array.getElem?_eq_some_iff.1 h.hbr).1
theorem RS.step (h : RS w0 b2 g br bf cs A c L s w) (hp : RPost w g s' w') (hl : s'.1.length ≤ s.1.length) : RS w0 b2 g br bf cs A c L s' w' := by
  have hlt := h.lt
  have n2 := h.n2; have n3 := h.n3; have n4 := h.n4; have n5 := h.n5
  exact ⟨h.b.trans (hp.2.below (fun i hi e => by omega) h.b.size), (hp.2.block b2 (by omega) (by omega)).trans h.h2, (hp.2.block br (by omega) (by omega)).trans h.hbr, (hp.2.block bf hlt (by omega)).trans h.hbf, hp.1,
    h.row.chg hp.2 (fun k hk e => by have := h.n6 k hk; omega), n2, n3, n4, n5, h.n6, Nat.le_trans hl h.len⟩
theorem RS0.step (h : RS0 w0 b2 g br s w) (hp : RPost w g s' w') (hl : s'.1.length ≤ s.1.length) : RS0 w0 b2 g br s' w' := by
  have hlt := h.lt
  have n2 := h.n2; have n3 := h.n3; have n4 := h.n4
  exact ⟨h.b.trans (hp.2.below (fun i hi e => by omega) h.b.size), (hp.2.block b2 (by omega) (by omega)).trans h.h2, (hp.2.block br (by omega) (by omega)).trans h.hbr, hp.1, n2, n3, n4, Nat.le_trans hl h.len⟩
theorem RS.below (h : RS w0 b2 g br bf cs A c L s w) (hb : Below w.heap.size w w') : RS w0 b2 g br bf cs A c L s w' := by
  have hlt := h.lt
  have n2 := h.n2; have n3 := h.n3; have n4 := h.n4; have n5 := h.n5
  exact ⟨h.b.trans (hb.mono h.b.size), (hb.block b2 (by omega)).trans h.h2, (hb.block br (by omega)).trans h.hbr, (hb.block bf hlt).trans h.hbf, h.rd.below hb, h.row.below hb, n2, n3, n4, n5, h.n6, h.len⟩
theorem RS0.below (h : RS0 w0 b2 g br s w) (hb : Below w.heap.size w w') : RS0 w0 b2 g br s w' := by
  have hlt := h.lt
  have n2 := h.n2; have n3 := h.n3; have n4 := h.n4
  exact ⟨h.b.trans (hb.mono h.b.size), (hb.block b2 (by omega)).trans h.h2, (hb.block br (by omega)).trans h.hbr, h.rd.below hb, n2, n3, n4, h.len⟩
theorem RS.set (h : RS w0 b2 g br bf cs A c L s w) (j : Nat) (v : Value) : RS w0 b2 g br bf (cs.setIfInBounds j v) A c L s (w.setCell ⟨bf, j, none⟩ v) := by
  have hlt := h.lt
  have n2 := h.n2; have n3 := h.n3; have n4 := h.n4; have n5 := h.n5
  have hc : Chg (fun i => i = bf) w (w.setCell ⟨bf, j, none⟩ v) := (Chg.refl _ w).set bf j v (fun _ => rfl)
  exact ⟨h.b.trans (hc.below (fun i hi e => by omega) h.b.size), (hc.block b2 (by omega) (by omega)).trans h.h2, (hc.block br (by omega) (by omega)).trans h.hbr, by rw [heap_setCell_same _ _ _ _ _ _ h.hbf],
    h.rd.keep (fun k hk => hc.block k (by omega) (by omega)), h.row.chg hc (fun k hk e => by have := h.n6 k hk; omega), n2, n3, n4, n5, h.n6, h.len⟩
theorem RS.rowTo (h : RS w0 b2 g br bf cs A c L s w) {A1 : Option Addr} {c1 : Nat} {L1 : List ByteArray} (hr : SRow w' A1 c1 L1) (hc : Chg (fun i => blk A = some i) w w') (hk : ∀ k, blk A1 = some k → blk A = some k ∨ k = w.heap.size) : RS w0 b2 g br bf cs A1 c1 L1 s w' := by
  have hlt := h.lt
  have n2 := h.n2; have n3 := h.n3; have n4 := h.n4; have n5 := h.n5
  exact ⟨h.b.trans (hc.below (fun i hi e => by have := h.n6 i e; omega) h.b.size), (hc.block b2 (by omega) (fun e => by have := h.n6 _ e; omega)).trans h.h2, (hc.block br (by omega) (fun e => by have := h.n6 _ e; omega)).trans h.hbr, (hc.block bf (by omega) (fun e => by have := h.n6 _ e; omega)).trans h.hbf,
    h.rd.keep (fun k hk => hc.block k (by omega) (fun e => by have := h.n6 _ e; omega)), hr, n2, n3, n4, n5, fun k h1 => by rcases hk k h1 with h2 | h2; exact h.n6 k h2; omega, h.len⟩
theorem RS.set11 {u0 u1 u2 u3 u4 u5 u6 u7 u8 u9 u10 : Value} (h0 : RS w0 b2 g br bf #[u0, u1, u2, u3, u4, u5, u6, u7, u8, u9, u10] A c L s w) (v0 v1 v2 v3 v4 v5 v6 v7 v8 v9 v10 : Value) : RS w0 b2 g br bf #[v0, v1, v2, v3, v4, v5, v6, v7, v8, v9, v10] A c L s (((((((((((w.setCell ⟨bf, 0, none⟩ v0).setCell ⟨bf, 1, none⟩ v1).setCell ⟨bf, 2, none⟩ v2).setCell ⟨bf, 3, none⟩ v3).setCell ⟨bf, 4, none⟩ v4).setCell ⟨bf, 5, none⟩ v5).setCell ⟨bf, 6, none⟩ v6).setCell ⟨bf, 7, none⟩ v7).setCell ⟨bf, 8, none⟩ v8).setCell ⟨bf, 9, none⟩ v9).setCell ⟨bf, 10, none⟩ v10) := by
  have h1 := h0.set 0 v0
  simp only [List.setIfInBounds_toArray, List.set_cons_zero, List.set_cons_succ] at h1
  have h2 := h1.set 1 v1
  simp only [List.setIfInBounds_toArray, List.set_cons_zero, List.set_cons_succ] at h2
  have h3 := h2.set 2 v2
  simp only [List.setIfInBounds_toArray, List.set_cons_zero, List.set_cons_succ] at h3
  have h4 := h3.set 3 v3
  simp only [List.setIfInBounds_toArray, List.set_cons_zero, List.set_cons_succ] at h4
  have h5 := h4.set 4 v4
  simp only [List.setIfInBounds_toArray, List.set_cons_zero, List.set_cons_succ] at h5
  have h6 := h5.set 5 v5
  simp only [List.setIfInBounds_toArray, List.set_cons_zero, List.set_cons_succ] at h6
  have h7 := h6.set 6 v6
  simp only [List.setIfInBounds_toArray, List.set_cons_zero, List.set_cons_succ] at h7
  have h8 := h7.set 7 v7
  simp only [List.setIfInBounds_toArray, List.set_cons_zero, List.set_cons_succ] at h8
  have h9 := h8.set 8 v8
  simp only [List.setIfInBounds_toArray, List.set_cons_zero, List.set_cons_succ] at h9
  have h10 := h9.set 9 v9
  simp only [List.setIfInBounds_toArray, List.set_cons_zero, List.set_cons_succ] at h10
  have h11 := h10.set 10 v10
  simp only [List.setIfInBounds_toArray, List.set_cons_zero, List.set_cons_succ] at h11
  exact h11
/-- The frame's block laid. -/
theorem RS0.frame (h : RS0 w0 b2 g br s w) (x : Array Value) : RS w0 b2 g br w.heap.size x none 0 [] s (w.alloc (.cells x 58)) := by
  have h1 := h.below (w' := w.alloc (.cells x 58)) (alloc1 w _ _).1
  exact ⟨h1.b, h1.h2, h1.hbr, (alloc1 w _ _).2.1, h1.rd, SRow.nil _, h1.n2, h1.n3, h1.n4, h.lt, by simp [blk], h1.len⟩
theorem RS.drew (h : RS w0 b2 g br bf cs A c L s w) : RS w0 b2 g br bf cs A c L s w.drew := h.below ((Below.refl _ _).drew)
theorem RS0.drew (h : RS0 w0 b2 g br s w) : RS0 w0 b2 g br s w.drew := h.below ((Below.refl _ _).drew)
theorem RS.fin (h : RS w0 b2 g br bf cs A c L s w) (hc : Chg (fun i => i = b2) w w') : SOut w0 w' A c L := by
  have n2 := h.n2; have n3 := h.n3; have n4 := h.n4; have n5 := h.n5
  exact ⟨h.row.chg hc (fun k hk e => by have := h.n6 k hk; omega), fun k hk => by have := h.n6 k hk; omega, h.b.trans (hc.below (fun i hi e => by omega) h.b.size)⟩
end
theorem keeps11 {M : List Nat} {w : World} {g : Nat} {t : TypeId} {v0 v1 v2 v3 v4 v5 v6 v7 v8 v9 v10 : Value} (h : w.heap[g]? = some (.cells #[v0, v1, v2, v3, v4, v5, v6, v7, v8, v9, v10] t (0, 0))) (hM : g ∉ M) :
    (∀ w', KeepsBut M w w' → w'.cell? ⟨g, 0, none⟩ = some v0) ∧ (∀ w', KeepsBut M w w' → w'.cell? ⟨g, 1, none⟩ = some v1) ∧ (∀ w', KeepsBut M w w' → w'.cell? ⟨g, 2, none⟩ = some v2) ∧ (∀ w', KeepsBut M w w' → w'.cell? ⟨g, 3, none⟩ = some v3) ∧ (∀ w', KeepsBut M w w' → w'.cell? ⟨g, 4, none⟩ = some v4) ∧ (∀ w', KeepsBut M w w' → w'.cell? ⟨g, 5, none⟩ = some v5) ∧ (∀ w', KeepsBut M w w' → w'.cell? ⟨g, 6, none⟩ = some v6) ∧ (∀ w', KeepsBut M w w' → w'.cell? ⟨g, 7, none⟩ = some v7) ∧ (∀ w', KeepsBut M w w' → w'.cell? ⟨g, 8, none⟩ = some v8) ∧ (∀ w', KeepsBut M w w' → w'.cell? ⟨g, 9, none⟩ = some v9) ∧ (∀ w', KeepsBut M w w' → w'.cell? ⟨g, 10, none⟩ = some v10) := by
  refine ⟨?_, ?_, ?_, ?_, ?_, ?_, ?_, ?_, ?_, ?_, ?_⟩ <;> (intro w' hk; exact hk.cell (by rw [cell_of_row _ _ _ _ _ _ h]; rfl) hM)
section
variable {k : Int} {s1 e1 q1 : Nat} {s : RdS}
theorem readB_7 (h7 : (k == 7) = true) : readB ⟨k, s1, e1, q1, 0, 0, 0, 0, 0, ⟨#[]⟩, []⟩ s = (⟨k, s1, e1, q1, 0, 0, 0, 0, 0, ⟨#[]⟩, []⟩, s) := by unfold readB; rw [if_pos h7]
theorem readB_1 (h7 : (k == 7) = false) (h1 : (k == 1) = true) : readB ⟨k, s1, e1, q1, 0, 0, 0, 0, 0, ⟨#[]⟩, []⟩ s = (⟨k, s1, e1, q1, nN s 4, (nN (nS s 4) 2 : Nat), (nN (nS (nS s 4) 2) 1 : Nat), 0, 0, tN (nS (nS (nS s 4) 2) 1) 32, []⟩, tS (nS (nS (nS s 4) 2) 1) 32) := by unfold readB; rw [if_neg (by rw [h7]; decide), if_pos h1]
theorem readB_2 (h7 : (k == 7) = false) (h1 : (k == 1) = false) (h2 : (k == 2) = true) : readB ⟨k, s1, e1, q1, 0, 0, 0, 0, 0, ⟨#[]⟩, []⟩ s = (⟨k, s1, e1, q1, 0, 0, 0, 0, (nN s 1 : Nat), ⟨#[]⟩, []⟩, nS s 1) := by unfold readB; rw [if_neg (by rw [h7]; decide), if_neg (by rw [h1]; decide), if_pos h2]
theorem readB_4 (h7 : (k == 7) = false) (h1 : (k == 1) = false) (h2 : (k == 2) = false) (h4 : (k == 4) = true) : readB ⟨k, s1, e1, q1, 0, 0, 0, 0, 0, ⟨#[]⟩, []⟩ s = (⟨k, s1, e1, q1, 0, 0, 0, (nN s 2 : Nat), 0, ⟨#[]⟩, (tList (nS (nS s 2) 1) (nN (nS s 2) 1)).1⟩, (tList (nS (nS s 2) 1) (nN (nS s 2) 1)).2) := by unfold readB; rw [if_neg (by rw [h7]; decide), if_neg (by rw [h1]; decide), if_neg (by rw [h2]; decide), if_pos h4]
theorem readB_6 (h7 : (k == 7) = false) (h1 : (k == 1) = false) (h2 : (k == 2) = false) (h4 : (k == 4) = false) (h6 : (k == 6) = true) : readB ⟨k, s1, e1, q1, 0, 0, 0, 0, 0, ⟨#[]⟩, []⟩ s = (⟨k, s1, e1, q1, 0, 0, 0, (nN s 2 : Nat), 0, tN (nS s 2) 64, []⟩, tS (nS s 2) 64) := by unfold readB; rw [if_neg (by rw [h7]; decide), if_neg (by rw [h1]; decide), if_neg (by rw [h2]; decide), if_neg (by rw [h4]; decide), if_pos h6]
theorem readB_x (h7 : (k == 7) = false) (h1 : (k == 1) = false) (h2 : (k == 2) = false) (h4 : (k == 4) = false) (h6 : (k == 6) = false) : readB ⟨k, s1, e1, q1, 0, 0, 0, 0, 0, ⟨#[]⟩, []⟩ s = (⟨k, s1, e1, q1, 0, 0, 0, (nN s 2 : Nat), 0, ⟨#[]⟩, []⟩, nS s 2) := by unfold readB; rw [if_neg (by rw [h7]; decide), if_neg (by rw [h1]; decide), if_neg (by rw [h2]; decide), if_neg (by rw [h4]; decide), if_neg (by rw [h6]; decide)]
end
end Go.Proofs.Ytebcginnnjigjaa

end
