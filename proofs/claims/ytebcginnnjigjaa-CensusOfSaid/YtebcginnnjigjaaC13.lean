import Derived.Test.YtebcginnnjigjaaC11
import Derived.Deep.QuietTactic
import Derived.BigQuiet
section
/- Nets: what they hold, and the program's small methods. -/
open Go.RowKit
namespace Go.Proofs.Ytebcginnnjigjaa

/-- What a net holds: how many were sent, came, were lost; what is on its way. -/
structure Nt where
  s : Int
  c : Int
  l : Int
  ps : List (Int × ByteArray)
def Nt.none : Nt := ⟨0, 0, 0, []⟩
/-- Bounds that all nets of the laws keep. -/
def Nt.ok (σ : Nt) : Prop := (0 ≤ σ.s ∧ σ.s ≤ 1000000) ∧ (0 ≤ σ.c ∧ σ.c ≤ 1000000) ∧ (0 ≤ σ.l ∧ σ.l ≤ 1000000) ∧ σ.ps.length ≤ 60
def inN (σ : Nt) (i : Int) : Prop := 0 ≤ i ∧ i < (σ.ps.length : Int)
instance (σ : Nt) (i : Int) : Decidable (inN σ i) := by unfold inN; infer_instance
def hasE (σ : Nt) (i : Int) : Nat := if inN σ i then 0 else 3
theorem hasE_in {σ : Nt} {i : Int} (h : inN σ i) : hasE σ i = 0 := by unfold hasE; rw [if_pos h]
theorem hasE_out {σ : Nt} {i : Int} (h : ¬ inN σ i) : hasE σ i = 3 := by unfold hasE; rw [if_neg h]
def pAt (σ : Nt) (i : Int) : Int × ByteArray := if inN σ i then σ.ps.getD i.toNat (0, ⟨#[]⟩) else (0, ⟨#[]⟩)
def sendE (σ : Nt) (to : Int) : Nat := if to ≠ 0 ∧ to ≠ 1 then 2 else if σ.ps.length = 60 then 11 else 0
def sendN (σ : Nt) (to : Int) (b : ByteArray) : Nt := if to ≠ 0 ∧ to ≠ 1 then σ else if σ.ps.length = 60 then ⟨σ.s + 1, σ.c, σ.l + 1, σ.ps⟩ else ⟨σ.s + 1, σ.c, σ.l, σ.ps ++ [(to, b)]⟩
def takeN (σ : Nt) (i : Int) : Nt := if inN σ i then ⟨σ.s, σ.c + 1, σ.l, σ.ps.eraseIdx i.toNat⟩ else σ
def loseN (σ : Nt) (i : Int) : Nt := if inN σ i then ⟨σ.s, σ.c, σ.l + 1, σ.ps.eraseIdx i.toNat⟩ else σ
def twiceE (σ : Nt) (i : Int) : Nat := if inN σ i then (if σ.ps.length = 60 then 11 else 0) else 3
def twiceN (σ : Nt) (i : Int) : Nt := if inN σ i ∧ σ.ps.length ≠ 60 then ⟨σ.s + 1, σ.c, σ.l, σ.ps ++ [pAt σ i]⟩ else σ
def cutE (σ : Nt) (i n : Int) : Nat := if inN σ i then (if n < 0 ∨ ((pAt σ i).2.size : Int) < n then 4 else 0) else 3
def cutS (b : ByteArray) (n : Nat) : ByteArray := b.extract 0 n
def cutN (σ : Nt) (i n : Int) : Nt := if inN σ i ∧ ¬ (n < 0 ∨ ((pAt σ i).2.size : Int) < n) then ⟨σ.s, σ.c, σ.l, σ.ps.set i.toNat ((pAt σ i).1, cutS (pAt σ i).2 n.toNat)⟩ else σ
def dropN (σ : Nt) : Nt := ⟨σ.s, σ.c, σ.l + σ.ps.length, []⟩

def Foot (g : Nat) (A : Option Addr) : Nat → Prop := fun i => i = g ∨ blk A = some i
/-- Block g is a net of the program. -/
def NetP (w : World) (g : Nat) (A : Option Addr) (c : Nat) (σ : Nt) : Prop :=
  w.heap[g]? = some (.cells #[.int .i64 σ.s, .int .i64 σ.c, .int .i64 σ.l, .slice A σ.ps.length c] 84 (0, 0)) ∧ PRow w A c σ.ps ∧ blk A ≠ some g
/-- What a method leaves. -/
def NetPost (w : World) (g : Nat) (A : Option Addr) (σ : Nt) (w' : World) : Prop :=
  ∃ A' c', NetP w' g A' c' σ ∧ (∀ k, blk A' = some k → blk A = some k ∨ w.heap.size ≤ k) ∧ Chg (Foot g A) w w'
section
variable {w w1 : World} {g : Nat} {A : Option Addr} {c : Nat} {σ : Nt}
theorem NetP.same (hc : Chg (Foot g A) w w1) (h1 : NetP w1 g A c σ) : NetPost w g A σ w1 := ⟨A, c, h1, fun _ hk => .inl hk, hc⟩
theorem NetP.lt (h : NetP w g A c σ) : g < w.heap.size := (Array.getElem?_eq_some_iff.1 h.1).1
theorem NetP.foot (h : NetP w g A c σ) : ∀ i, Foot g A i → i < w.heap.size := fun i hi => by
  rcases hi with rfl | hi
  · exact h.lt
  · exact h.2.1.lt hi
theorem NetP.chg {F : Nat → Prop} (h : NetP w g A c σ) (hc : Chg F w w1) (hF : ∀ i, Foot g A i → ¬ F i) : NetP w1 g A c σ :=
  ⟨(hc.block g h.lt (hF g (.inl rfl))).trans h.1, h.2.1.chg hc (fun k hk => hF k (.inr hk)), h.2.2⟩
theorem NetP.cells (h : NetP w g A c σ) :
    (w.cell? ⟨g, 0, none⟩ = some (.int .i64 σ.s) ∧ w.cell? ⟨g, 1, none⟩ = some (.int .i64 σ.c) ∧ w.cell? ⟨g, 2, none⟩ = some (.int .i64 σ.l) ∧ w.cell? ⟨g, 3, none⟩ = some (.slice A σ.ps.length c)) ∧
      w.frozen? ⟨g, 0, none⟩ = false ∧ w.frozen? ⟨g, 1, none⟩ = false ∧ w.frozen? ⟨g, 2, none⟩ = false ∧ w.frozen? ⟨g, 3, none⟩ = false := cells4 h.1
/-- A counter is written. -/
theorem NetP.setS (h : NetP w g A c σ) (x : Int) : NetP (w.setCell ⟨g, 0, none⟩ (.int .i64 x)) g A c ⟨x, σ.c, σ.l, σ.ps⟩ :=
  ⟨heap_setCell_same w g 0 _ _ _ h.1, h.2.1.chg (F := fun i => i = g) ((Chg.refl _ _).set g 0 _ (fun _ => rfl)) (fun _ hk e => h.2.2 (e ▸ hk)), h.2.2⟩
theorem NetP.setC (h : NetP w g A c σ) (x : Int) : NetP (w.setCell ⟨g, 1, none⟩ (.int .i64 x)) g A c ⟨σ.s, x, σ.l, σ.ps⟩ :=
  ⟨heap_setCell_same w g 1 _ _ _ h.1, h.2.1.chg (F := fun i => i = g) ((Chg.refl _ _).set g 1 _ (fun _ => rfl)) (fun _ hk e => h.2.2 (e ▸ hk)), h.2.2⟩
theorem NetP.setL (h : NetP w g A c σ) (x : Int) : NetP (w.setCell ⟨g, 2, none⟩ (.int .i64 x)) g A c ⟨σ.s, σ.c, x, σ.ps⟩ :=
  ⟨heap_setCell_same w g 2 _ _ _ h.1, h.2.1.chg (F := fun i => i = g) ((Chg.refl _ _).set g 2 _ (fun _ => rfl)) (fun _ hk e => h.2.2 (e ▸ hk)), h.2.2⟩
/-- Another row is written into the net. -/
theorem netP_setR {w : World} {g : Nat} {a b l : Int} {v : Value} {A : Option Addr} {c : Nat} {ps : List (Int × ByteArray)} (h : w.heap[g]? = some (.cells #[.int .i64 a, .int .i64 b, .int .i64 l, v] 84 (0, 0))) (hr : PRow w A c ps) (hne : blk A ≠ some g) :
    NetP (w.setCell ⟨g, 3, none⟩ (.slice A ps.length c)) g A c ⟨a, b, l, ps⟩ :=
  ⟨heap_setCell_same w g 3 _ _ _ h, hr.chg (F := fun i => i = g) ((Chg.refl _ _).set g 3 _ (fun _ => rfl)) (fun _ hk e => hne (e ▸ hk)), hne⟩
end

theorem netNew_any (w : World) : Calls Try.prog 22 #[] w fun e w' => e = .returned (.pointer (some ⟨w.heap.size, 0, none⟩)) ∧ NetP w' w.heap.size none 0 Nt.none ∧ Below w.heap.size w w' ∧ w'.heap.size = w.heap.size + 1 := by
  obtain ⟨hb, hg, hs⟩ := alloc1 w #[.int .i64 0, .int .i64 0, .int .i64 0, .slice none 0 0] 84
  go_enter Try.func22, Try.ntmps22
  go_wp2
  go_ret
  exact ⟨rfl, ⟨hg, PRow.nil _, by simp [blk]⟩, hb, hs⟩
theorem netLen_any (w : World) (g : Nat) (A : Option Addr) (c : Nat) (σ : Nt) (h : NetP w g A c σ) : Calls Try.prog 18 #[.pointer (some ⟨g, 0, none⟩)] w fun e w' => e = .returned (.int .i64 (σ.ps.length : Nat)) ∧ w = w' := by
  obtain ⟨⟨c0, c1, c2, c3⟩, _⟩ := h.cells
  clear h
  go_enter Try.func18, Try.ntmps18
  go_wp2
  go_ret
  exact ⟨rfl, rfl⟩
theorem netLen_nil (w : World) : Calls Try.prog 18 #[.pointer none] w fun e w' => e = .returned (.int .i64 0) ∧ w = w' := by
  go_enter Try.func18, Try.ntmps18
  go_wp2
  go_ret
  exact ⟨rfl, rfl⟩
theorem netHas_any (w : World) (g : Nat) (A : Option Addr) (c : Nat) (σ : Nt) (h : NetP w g A c σ) (i : Int) : Calls Try.prog 33 #[.pointer (some ⟨g, 0, none⟩), .int .i64 i] w fun e w' => e = .returned (.int .i64 (hasE σ i : Nat)) ∧ w = w' := by
  obtain ⟨⟨c0, c1, c2, c3⟩, _⟩ := h.cells
  clear h
  by_cases h0 : i < 0
  · have H := Lib.hid (show hasE σ i = 3 from hasE_out (by unfold inN; omega))
    go_enter Try.func33, Try.ntmps33
    go_wp2
    go_ret
    exact ⟨by rw [H.out]; rfl, rfl⟩
  · by_cases h1 : (σ.ps.length : Int) ≤ i
    · have H := Lib.hid (show hasE σ i = 3 from hasE_out (by unfold inN; omega))
      go_enter Try.func33, Try.ntmps33
      go_wp2
      go_ret
      exact ⟨by rw [H.out]; rfl, rfl⟩
    · have H := Lib.hid (show hasE σ i = 0 from hasE_in (by unfold inN; omega))
      go_enter Try.func33, Try.ntmps33
      go_wp2
      go_ret
      exact ⟨by rw [H.out]; rfl, rfl⟩
theorem netHas_nil (w : World) (i : Int) : Calls Try.prog 33 #[.pointer none, .int .i64 i] w fun e w' => e = .returned (.int .i64 1) ∧ w = w' := by
  go_enter Try.func33, Try.ntmps33
  go_wp2
  go_ret
  exact ⟨rfl, rfl⟩
theorem netCounts_any (w : World) (g : Nat) (A : Option Addr) (c : Nat) (σ : Nt) (h : NetP w g A c σ) : Calls Try.prog 21 #[.pointer (some ⟨g, 0, none⟩)] w fun e w' => e = .returned (.tuple #[.int .i64 σ.s, .int .i64 σ.c, .int .i64 σ.l]) ∧ Below w.heap.size w w' := by
  obtain ⟨⟨c0, c1, c2, c3⟩, _⟩ := h.cells
  clear h
  go_enter Try.func21, Try.ntmps21
  go_wp2_with fail
  go_quiet (fail)
  go_wp2_with fail
  go_ret3
  exact ⟨rfl, ⟨rfl, rfl, rfl, Nat.le_refl _, fun _ _ => rfl⟩⟩
theorem netCounts_nil (w : World) : Calls Try.prog 21 #[.pointer none] w fun e w' => e = .returned (.tuple #[.int .i64 0, .int .i64 0, .int .i64 0]) ∧ w = w' := by
  go_enter Try.func21, Try.ntmps21
  go_wp2
  go_ret3
  exact ⟨rfl, rfl⟩
end Go.Proofs.Ytebcginnnjigjaa

end
section
/- Nets: one of them; all are lost; one is cut. -/
open Go.RowKit
namespace Go.Proofs.Ytebcginnnjigjaa

theorem PRow.cell {w : World} {b c : Nat} {ps : List (Int × ByteArray)} (h : PRow w (some ⟨b, 0, none⟩) c ps) (k : Nat) (hk : k < ps.length) :
    w.cell? ⟨b, k * 2, none⟩ = some (.int .i64 ps[k].1) ∧ w.cell? ⟨b, k * 2 + 1, none⟩ = some (.string ps[k].2) ∧ w.frozen? ⟨b, k * 2, none⟩ = false ∧ w.frozen? ⟨b, k * 2 + 1, none⟩ = false := by
  refine ⟨?_, ?_, World.ownsRow.frozenAt h _, World.ownsRow.frozenAt h _⟩
  · rw [World.ownsRow.cellAt h (k * 2) (by omega)]; exact pks_get0 ps k hk
  · rw [World.ownsRow.cellAt h (k * 2 + 1) (by omega)]; exact pks_get1 ps k hk
theorem pAt_in {σ : Nt} {k : Nat} (hk : k < σ.ps.length) : pAt σ (k : Int) = σ.ps[k] := by
  unfold pAt; rw [if_pos (show inN σ k by unfold inN; omega), Int.toNat_natCast, List.getD_eq_getElem?_getD, List.getElem?_eq_getElem hk]; rfl
theorem pAt_out {σ : Nt} {i : Int} (h : ¬ inN σ i) : pAt σ i = (0, ⟨#[]⟩) := by unfold pAt; rw [if_neg h]
theorem inN_nat {σ : Nt} {i : Int} (h : inN σ i) : ∃ k : Nat, k < σ.ps.length ∧ i = (k : Int) := ⟨i.toNat, by unfold inN at h; omega, by unfold inN at h; omega⟩

set_option maxRecDepth 100000 in
theorem netAt_any (w : World) (g : Nat) (A : Option Addr) (c : Nat) (σ : Nt) (h : NetP w g A c σ) (i : Int) :
    Calls Try.prog 19 #[.pointer (some ⟨g, 0, none⟩), .int .i64 i] w fun e w' => e = .returned (.tuple #[.agg #[.int .i64 (pAt σ i).1, .string (pAt σ i).2], .int .i64 (hasE σ i : Nat)]) ∧ Below w.heap.size w w' := by
  obtain ⟨hb1, hg1, hs1⟩ := alloc1 w #[.int .i64 0, .string ⟨#[]⟩] 51
  have hN := h.chg (F := fun _ => False) (.of_below hb1) (fun _ _ f => f)
  have HH := Lib.hid (netHas_any _ g A c σ hN i)
  by_cases hin : inN σ i
  · obtain ⟨k, hk, rfl⟩ := inN_nat hin
    obtain ⟨b, rfl, hbl⟩ := h.2.1.form (by omega)
    obtain ⟨d0, d1, _, _⟩ := hN.2.1.cell k hk
    obtain ⟨⟨_, _, _, c3⟩, _⟩ := hN.cells
    rw [hasE_in hin] at HH ⊢
    rw [pAt_in hk]
    generalize σ.ps[k] = p at *
    obtain ⟨q0, q1, q2, q3⟩ := cells2 hg1
    have E := Lib.hid (set2 hg1 (.int .i64 p.1) (.string p.2))
    have Hb := Lib.hid (below_set2 hb1 (g := w.heap.size) (Nat.le_refl _) (.int .i64 p.1) (.string p.2))
    clear h hN hin hb1 hg1 hs1
    go_enter Try.func19, Try.ntmps19
    go_wp2_with fail
    generalize w.alloc (.cells #[.int .i64 0, .string ⟨#[]⟩] 51) = w1 at *
    refine (HH.out).mono ?_
    rintro e w2 ⟨rfl, rfl⟩
    go_wp2_with fail
    try simp only [Exit.inBlock, Exit.then]
    exact bodyPost_ret (results_cell_tmp_row rfl _ _ w.heap.size _ _ _ _ rfl E.out Try.underlying51 rfl (by kernel_rfl)) rfl ⟨rfl, Hb.out⟩
  · rw [hasE_out hin] at HH ⊢
    rw [pAt_out hin]
    have E := Lib.hid hg1
    have Hb := Lib.hid hb1
    clear h hN hin hs1 hb1 hg1
    go_enter Try.func19, Try.ntmps19
    go_wp2_with fail
    refine (HH.out).mono ?_
    rintro e w2 ⟨rfl, rfl⟩
    rw [show ((3 : Nat) : Int) = 3 from rfl]
    go_wp2_with fail
    try simp only [Exit.inBlock, Exit.then]
    exact bodyPost_ret (results_cell_tmp_row rfl _ _ w.heap.size _ _ _ _ rfl E.out Try.underlying51 rfl (by kernel_rfl)) rfl ⟨rfl, Hb.out⟩
theorem netAt_nil (w : World) (i : Int) :
    Calls Try.prog 19 #[.pointer none, .int .i64 i] w fun e w' => e = .returned (.tuple #[.agg #[.int .i64 0, .string ⟨#[]⟩], .int .i64 1]) ∧ Below w.heap.size w w' := by
  obtain ⟨hb1, hg1, hs1⟩ := alloc1 w #[.int .i64 0, .string ⟨#[]⟩] 51
  have E := Lib.hid hg1
  have Hb := Lib.hid hb1
  clear hs1 hb1 hg1
  go_enter Try.func19, Try.ntmps19
  go_wp2_with fail
  refine (netHas_nil _ i).mono ?_
  rintro e w2 ⟨rfl, rfl⟩
  go_wp2_with fail
  try simp only [Exit.inBlock, Exit.then]
  exact bodyPost_ret (results_cell_tmp_row rfl _ _ w.heap.size _ _ _ _ rfl E.out Try.underlying51 rfl (by kernel_rfl)) rfl ⟨rfl, Hb.out⟩

end Go.Proofs.Ytebcginnnjigjaa

end
section
/- Nets: one more; one is there twice. -/
open Go.RowKit
namespace Go.Proofs.Ytebcginnnjigjaa

theorem keeps_alloc_drew (w : World) (o : Obj) : KeepsBut [] w.drew (w.alloc o).drew :=
  ⟨by show w.heap.size ≤ (w.heap.push _).size; rw [Array.size_push]; omega, fun i hi _ => heap_alloc_old w o hi⟩
theorem wpList_append_pk {w : World} {ops : Array Oper} {rest : List Oper} {o : Oper} {a : Act} {Q : Exit → Act → World → Prop} (hgd : o.guard = none) (s x : Operand)
    (ho : o.op = .call { callee := .builtin .append, args := #[s, x], argTypes := #[22, 22] })
    (A : Option Addr) (c : Nat) (ps : List (Int × ByteArray)) (hs : a.eval s = .slice A ps.length c) (hrow : PRow w A c ps)
    (A' : Option Addr) (c' : Nat) (qs : List (Int × ByteArray)) (m : Nat) (hm : qs.length = m) (hx : a.eval x = .slice A' m c') (hr : Reads w 2 A' m (pks qs)) (hlen : ps.length + m ≤ 100000)
    (h : ∀ A1 c1 w1, PRow w1 A1 c1 (ps ++ qs) → Chg (fun i => blk A = some i) w w1 → (∀ k, blk A1 = some k → blk A = some k ∨ k = w.heap.size) → wpList Try.prog ops Q rest (a.put o.dst (.slice A1 (ps ++ qs).length c1)) w1) : wpList Try.prog ops Q (o :: rest) a w := by
  obtain ⟨i0, hi, hz0, hz1, hz2⟩ := info_parts info_pk
  subst hm
  refine wpList_append_any w hgd s x 22 ho 0 51 i0 _ 2 24 Try.underlying22 hi hz0 hz1 hz2 rfl (by omega) _ _ _ hs hrow A' _ c' _ hx hr (oneCell_pks _) (by unfold maxLen; omega) (by omega) (Nat.zero_le _) ?_
  intro v' w' h1 h2 h3
  obtain ⟨A1, c1, rfl, _⟩ := own_slice h1
  rw [ownBlock_slice] at h2
  have hl : ps.length + qs.length = (ps ++ qs).length := by simp
  rw [← pks_append, hl] at h1
  rw [hl]
  refine h A1 c1 w' h1 ⟨h2.os, h2.tape, h2.output, h2.size, fun i hi hF => h2.block i hi (fun e => hF e.symm)⟩ fun k hk => ?_
  rw [ownBlock_slice, ownBlock_slice] at h3
  rcases h3 with h3 | h3
  · exact .inl (h3 ▸ hk)
  · rw [hk] at h3; exact .inr (Option.some.inj h3)

/-- A row that has grown is written into the net. -/
theorem netGrow {w w1 w2 : World} {g : Nat} {A A1 : Option Addr} {c c1 : Nat} {σ : Nt} {a b l : Int} {ps : List (Int × ByteArray)} (h : NetP w g A c σ) (hw : Chg (Foot g A) w w1)
    (hg1 : w1.heap[g]? = some (.cells #[.int .i64 a, .int .i64 b, .int .i64 l, .slice A σ.ps.length c] 84 (0, 0)))
    (hr : PRow w2 A1 c1 ps) (hc : Chg (fun i => blk A = some i) w1 w2) (hk : ∀ k, blk A1 = some k → blk A = some k ∨ w.heap.size ≤ k) (hn : blk A1 = none ∨ blk A1 ≠ some g) :
    NetPost w g A ⟨a, b, l, ps⟩ (w2.setCell ⟨g, 3, none⟩ (.slice A1 ps.length c1)) := by
  have hlt : g < w1.heap.size := Nat.lt_of_lt_of_le h.lt hw.size
  have g2 := (hc.block g hlt (fun e => h.2.2 e)).trans hg1
  refine ⟨A1, c1, netP_setR g2 hr (by rcases hn with hn | hn; simp [hn]; exact hn), hk, ?_⟩
  exact (hw.trans hc (fun i _ hi => .inr hi)).set g 3 _ (fun _ => .inl rfl)

set_option maxHeartbeats 1000000 in
set_option maxRecDepth 100000 in
theorem netSend_any (w : World) (g : Nat) (A : Option Addr) (c : Nat) (σ : Nt) (hok : σ.ok) (h : NetP w g A c σ) (to : Int) (B : Option Addr) (l : List UInt8) (c2 : Nat) (hr : Reads w 1 B l.length (bv l)) :
    Calls Try.prog 24 #[.pointer (some ⟨g, 0, none⟩), .int .i64 to, .slice B l.length c2] w fun e w' => e = .returned (.int .i64 (sendE σ to : Nat)) ∧ NetPost w g A (sendN σ to ⟨l.toArray⟩) w' := by
  by_cases hto : to ≠ 0 ∧ to ≠ 1
  · have H := Lib.hid (show sendE σ to = 2 ∧ sendN σ to ⟨l.toArray⟩ = σ from ⟨by unfold sendE; rw [if_pos hto], by unfold sendN; rw [if_pos hto]⟩)
    have Hp := Lib.hid (NetP.same (.refl _ _) h)
    obtain ⟨t0, t1⟩ := hto
    have b0 : (to != 0) = true := by rw [bne_iff_ne]; exact t0
    have b1 : (to != 1) = true := by rw [bne_iff_ne]; exact t1
    clear h hr hok t0 t1
    go_enter Try.func24, Try.ntmps24
    go_wp2_with fail
    go_ret
    exact ⟨by rw [H.out.1]; rfl, by rw [H.out.2]; exact Hp.out⟩
  · have hto2 : to = 0 ∨ to = 1 := by omega
    obtain ⟨⟨c0, c1, c2', c3⟩, f0, f1, f2, f3⟩ := h.cells
    obtain ⟨⟨h1, h2⟩, _, ⟨h5, h6⟩, h7⟩ := hok
    have hS := h.setS (σ.s + 1)
    by_cases h60 : σ.ps.length = 60
    · have H := Lib.hid (show sendE σ to = 11 ∧ sendN σ to ⟨l.toArray⟩ = ⟨σ.s + 1, σ.c, σ.l + 1, σ.ps⟩ from ⟨by unfold sendE; rw [if_neg hto, if_pos h60], by unfold sendN; rw [if_neg hto, if_pos h60]⟩)
      have hp : NetPost w g A ⟨σ.s + 1, σ.c, σ.l + 1, σ.ps⟩ ((w.setCell ⟨g, 0, none⟩ (.int .i64 (σ.s + 1))).setCell ⟨g, 2, none⟩ (.int .i64 (σ.l + 1))) :=
        ⟨A, c, hS.setL (σ.l + 1), fun _ hk => .inl hk, ((Chg.refl _ _).set g 0 _ (fun _ => .inl rfl)).set g 2 _ (fun _ => .inl rfl)⟩
      have Hp := Lib.hid hp
      have e60 : ((σ.ps.length : Int) == 60) = true := by rw [h60]; rfl
      clear hp hS h hr hto h60 h7
      rcases hto2 with rfl | rfl
      all_goals
        go_enter Try.func24, Try.ntmps24
        go_wp2_with fail
        go_ret
        exact ⟨by rw [H.out.1]; rfl, by rw [H.out.2]; exact Hp.out⟩
    · have H := Lib.hid (show sendE σ to = 0 ∧ sendN σ to ⟨l.toArray⟩ = ⟨σ.s + 1, σ.c, σ.l, σ.ps ++ [(to, ⟨l.toArray⟩)]⟩ from ⟨by unfold sendE; rw [if_neg hto, if_neg h60], by unfold sendN; rw [if_neg hto, if_neg h60]⟩)
      have e60 : ((σ.ps.length : Int) == 60) = false := by rw [beq_eq_false_iff_ne]; omega
      have HN := Lib.hid h
      have HS := Lib.hid hS
      have hlen : σ.ps.length + 1 ≤ 100000 := by omega
      have Hlen := Lib.hid hlen
      have HC := Lib.hid ((Chg.refl (Foot g A) w).set g 0 (.int .i64 (σ.s + 1)) (fun _ => .inl rfl))
      have Hr := Lib.hid (hr.far (i := 0) (v := .int .i64 (σ.s + 1)) h.1 (by simp))
      clear h hr hS hto h60 h7 hlen h5 h6
      rcases hto2 with rfl | rfl
      all_goals
        go_enter Try.func24, Try.ntmps24
        go_wp2_with fail
        clear c0 c1 c2' c3 f0 f1 f2 f3 e60
        generalize w.setCell ⟨g, 0, none⟩ (.int .i64 (σ.s + 1)) = w1 at HS HC Hr ⊢
        obtain ⟨⟨_, _, _, c3⟩, _, _, _, f3⟩ := HS.out.cells
        simp only at c3
        have p3 := fun w' (hk : KeepsBut [] w1.drew w') => hk.cell (p := ⟨g, 3, none⟩) c3 (by simp)
        have pc : ∀ w', KeepsBut [] w1.drew w' → (convert 61 9 (.slice B l.length c2)).run Try.prog w' = .ok (.string ⟨l.toArray⟩) w' := fun w' hk => run_string_of_bytes c2 (Hr.out.keep fun p u hu => hk.cell (p := p) hu (by simp))
        refine wp_region_mix3 (KeepsBut []) (KeepsBut.refl []) (KeepsBut.trans []) [10, 13] [(0, 0), (0, 1), (0, 2), (0, 3), (0, 5), (0, 6), (1, 4), (1, 7), (0, 8), (2, 9), (2, 10), (0, 11), (0, 12), (2, 13)] (by kernel_rfl) (by kernel_rfl) (fun d _ _ _ _ h => by cases d <;> exact h) ?_
        repeat ((first | (refine mix3_free (v := ?_) rfl rfl ?_ (mix3_norm (a' := ?_) ?_ ?_); rotate_left; focus (intro w'; go_simp; first | done | (with_reducible rfl))) | (refine mix3_pure (v := ?_) rfl rfl ?_ (mix3_norm (a' := ?_) ?_ ?_); rotate_left; focus (intro w' hR; go_simp; first | done | (with_reducible rfl))) | refine mix3_freeOff rfl rfl (mix3_norm (a' := ?_) ?_ ?_) | refine mix3_off rfl rfl (mix3_norm (a' := ?_) ?_ ?_)); rotate_left; focus (simp only [Act.put, List.getElem_toArray, List.getElem_cons_zero, List.getElem_cons_succ, List.setIfInBounds_toArray, List.set_cons_zero, List.set_cons_succ]; rfl))
        clear p3 pc c3 f3
        refine mix3_eff rfl ?_
        simp only [List.getElem_toArray, List.getElem_cons_zero, List.getElem_cons_succ]
        go_wp2_with fail
        refine mixQ3_normal (keeps_alloc_drew _ _) rfl ?_
        refine mix3_eff rfl ?_
        simp only [List.getElem_toArray, List.getElem_cons_zero, List.getElem_cons_succ]
        refine wpList_append_pk rfl (.tmp 45) (.tmp 50) rfl A c σ.ps rfl (HS.out.2.1.chg (F := fun _ => False) (.of_below (((Below.refl w1.heap.size w1).alloc (Nat.le_refl _) _).drew)) (fun _ _ f => f)) (some ⟨w1.heap.size, 0, none⟩) 1 [(_, ⟨l.toArray⟩)] 1 rfl rfl (Reads.of_block (n := 1) (cs := #[.int .i64 _, .string ⟨l.toArray⟩]) (heap_alloc_new _ _) rfl) Hlen.out ?_
        intro A1 c1 w3 hrow hc3 hblk
        have hc3 : Chg (fun i => blk A = some i) w1 w3 := (Chg.of_below (F := fun i => blk A = some i) (((Below.refl w1.heap.size w1).alloc (Nat.le_refl _) _).drew)).trans hc3 (fun _ _ h => h)
        have hblk : ∀ k, blk A1 = some k → blk A = some k ∨ w1.heap.size ≤ k := fun k hk => by
          rcases hblk k hk with h | h
          · exact .inl h
          · right; rw [h]; show w1.heap.size ≤ (w1.heap.push _).size; rw [Array.size_push]; omega
        have hlt : g < w1.heap.size := HS.out.lt
        have hne : blk A1 = none ∨ blk A1 ≠ some g := .inr fun e => by
          rcases hblk g e with h | h
          · exact HS.out.2.2 h
          · omega
        have hfin := (netGrow HN.out HC.out HS.out.1 hrow hc3 (fun k hk => by
          rcases hblk k hk with h | h
          · exact .inl h
          · exact .inr (Nat.le_trans HC.out.size h)) hne)
        simp only [List.length_append, List.length_cons, List.length_nil, Nat.zero_add] at hfin
        have Hfin := Lib.hid hfin
        obtain ⟨_, _, _, _⟩ := (cells4 ((hc3.block g hlt HS.out.2.2).trans HS.out.1)).1
        obtain ⟨_, _, _, f3⟩ := (cells4 ((hc3.block g hlt HS.out.2.2).trans HS.out.1)).2
        obtain ⟨u3, c3⟩ : ∃ u, w3.cell? ⟨g, 3, none⟩ = some u := ⟨_, by assumption⟩
        clear hrow hc3 hblk hlt hne hfin
        go_wp2_with fail
        refine mixQ3_last (by simp) rfl ?_
        repeat ((first | (refine mix3_free (v := ?_) rfl rfl ?_ (mix3_norm (a' := ?_) ?_ ?_); rotate_left; focus (intro w'; go_simp; first | done | (with_reducible rfl))) | (refine mix3_pure (v := ?_) rfl rfl ?_ (mix3_norm (a' := ?_) ?_ ?_); rotate_left; focus (intro w' hR; go_simp; first | done | (with_reducible rfl))) | refine mix3_freeOff rfl rfl (mix3_norm (a' := ?_) ?_ ?_) | refine mix3_off rfl rfl (mix3_norm (a' := ?_) ?_ ?_)); rotate_left; focus (simp only [Act.put, List.getElem_toArray, List.getElem_cons_zero, List.getElem_cons_succ, List.setIfInBounds_toArray, List.set_cons_zero, List.set_cons_succ]; rfl))
        refine mix3_eff rfl ?_
        simp only [List.getElem_toArray, List.getElem_cons_zero, List.getElem_cons_succ]
        go_wp2_with fail
        refine mixQ3_last (by simp) rfl ?_
        refine mix3_done ?_
        go_wp2_with fail
        go_ret
        exact ⟨by rw [H.out.1]; rfl, by rw [H.out.2]; exact Hfin.out⟩
end Go.Proofs.Ytebcginnnjigjaa

end
section
/- Nets: one is there twice; one is cut. -/
open Go.RowKit
namespace Go.Proofs.Ytebcginnnjigjaa

theorem NetP.row {w : World} {g c : Nat} {A : Option Addr} {σ : Nt} (h : NetP w g A c σ) {k : Nat} (hk : k < σ.ps.length) : ∃ b, A = some ⟨b, 0, none⟩ ∧ b < w.heap.size ∧ b ≠ g := by
  obtain ⟨b, rfl, hb⟩ := h.2.1.form (by omega)
  exact ⟨b, rfl, hb, fun e => h.2.2 (by rw [← e]; rfl)⟩

theorem netLose_nil (w : World) (i : Int) : Calls Try.prog 31 #[.pointer none, .int .i64 i] w fun e w' => e = .returned (.int .i64 1) ∧ w = w' := by
  go_enter Try.func31, Try.ntmps31
  go_wp2_with fail
  refine (netHas_nil _ i).mono ?_
  rintro e w2 ⟨rfl, rfl⟩
  go_wp2_with fail
  go_ret
  exact ⟨rfl, rfl⟩

/-! ### one is cut -/
theorem PRow.set1 {w : World} {b c : Nat} {ps : List (Int × ByteArray)} (h : PRow w (some ⟨b, 0, none⟩) c ps) (k : Nat) (hk : k < ps.length) (s : ByteArray) :
    PRow (w.setCell ⟨b, k * 2 + 1, none⟩ (.string s)) (some ⟨b, 0, none⟩) c (ps.set k (ps[k].1, s)) := by
  have h1 := (World.ownsRow.stored h (k * 2 + 1) (.string s)).1
  rw [pks_set1 ps k hk s] at h1
  unfold PRow
  rw [List.length_set]
  exact h1
theorem NetP.cutAt {w : World} {g b c : Nat} {σ : Nt} (h : NetP w g (some ⟨b, 0, none⟩) c σ) (hb : b ≠ g) (k : Nat) (hk : k < σ.ps.length) (s : ByteArray) :
    NetPost w g (some ⟨b, 0, none⟩) ⟨σ.s, σ.c, σ.l, σ.ps.set k (σ.ps[k].1, s)⟩ (w.setCell ⟨b, k * 2 + 1, none⟩ (.string s)) := by
  refine ⟨some ⟨b, 0, none⟩, c, ⟨?_, h.2.1.set1 k hk s, h.2.2⟩, fun _ hk => .inl hk, (Chg.refl _ _).set b _ _ (fun _ => .inr rfl)⟩
  rw [List.length_set]
  exact (heap_setCell_other w ⟨b, k * 2 + 1, none⟩ g _ (fun e => hb e.symm)).trans h.1

end Go.Proofs.Ytebcginnnjigjaa

end
