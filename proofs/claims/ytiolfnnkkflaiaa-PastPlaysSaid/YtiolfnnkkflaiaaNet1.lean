/- Nets: what they hold, and the program's small methods. -/
import Derived.Test.YtiolfnnkkflaiaaPk
import Derived.Deep.QuietTactic
import Derived.BigQuiet
open Go.RowKit
namespace Go.Proofs.Ytiolfnnkkflaiaa

/-- What a net holds: how many were sent, came, were lost; what is on its way. -/
structure Nt where
  s : Int
  c : Int
  l : Int
  ps : List (Int × ByteArray)
def Nt.none : Nt := ⟨0, 0, 0, []⟩
/-- Bounds that all nets of the laws keep. -/
def Nt.ok (σ : Nt) : Prop := (0 ≤ σ.s ∧ σ.s ≤ 1000000) ∧ (0 ≤ σ.c ∧ σ.c ≤ 1000000) ∧ (0 ≤ σ.l ∧ σ.l ≤ 1000000) ∧ σ.ps.length ≤ 60
def inN (σ : Nt) (i : Int) : Prop := 0 ≤ i ∧ i < (σ.ps.length : Int)
instance (σ : Nt) (i : Int) : Decidable (inN σ i) := by unfold inN; infer_instance
def hasE (σ : Nt) (i : Int) : Nat := if inN σ i then 0 else 3
theorem hasE_in {σ : Nt} {i : Int} (h : inN σ i) : hasE σ i = 0 := by unfold hasE; rw [if_pos h]
theorem hasE_out {σ : Nt} {i : Int} (h : ¬ inN σ i) : hasE σ i = 3 := by unfold hasE; rw [if_neg h]
def pAt (σ : Nt) (i : Int) : Int × ByteArray := if inN σ i then σ.ps.getD i.toNat (0, ⟨#[]⟩) else (0, ⟨#[]⟩)
def sendE (σ : Nt) (to : Int) : Nat := if to ≠ 0 ∧ to ≠ 1 then 2 else if σ.ps.length = 60 then 11 else 0
def sendN (σ : Nt) (to : Int) (b : ByteArray) : Nt := if to ≠ 0 ∧ to ≠ 1 then σ else if σ.ps.length = 60 then ⟨σ.s + 1, σ.c, σ.l + 1, σ.ps⟩ else ⟨σ.s + 1, σ.c, σ.l, σ.ps ++ [(to, b)]⟩
def takeN (σ : Nt) (i : Int) : Nt := if inN σ i then ⟨σ.s, σ.c + 1, σ.l, σ.ps.eraseIdx i.toNat⟩ else σ
def loseN (σ : Nt) (i : Int) : Nt := if inN σ i then ⟨σ.s, σ.c, σ.l + 1, σ.ps.eraseIdx i.toNat⟩ else σ
def twiceE (σ : Nt) (i : Int) : Nat := if inN σ i then (if σ.ps.length = 60 then 11 else 0) else 3
def twiceN (σ : Nt) (i : Int) : Nt := if inN σ i ∧ σ.ps.length ≠ 60 then ⟨σ.s + 1, σ.c, σ.l, σ.ps ++ [pAt σ i]⟩ else σ
def cutE (σ : Nt) (i n : Int) : Nat := if inN σ i then (if n < 0 ∨ ((pAt σ i).2.size : Int) < n then 4 else 0) else 3
def cutS (b : ByteArray) (n : Nat) : ByteArray := b.extract 0 n
def cutN (σ : Nt) (i n : Int) : Nt := if inN σ i ∧ ¬ (n < 0 ∨ ((pAt σ i).2.size : Int) < n) then ⟨σ.s, σ.c, σ.l, σ.ps.set i.toNat ((pAt σ i).1, cutS (pAt σ i).2 n.toNat)⟩ else σ
def dropN (σ : Nt) : Nt := ⟨σ.s, σ.c, σ.l + σ.ps.length, []⟩

def Foot (g : Nat) (A : Option Addr) : Nat → Prop := fun i => i = g ∨ blk A = some i
/-- Block g is a net of the program. -/
def NetP (w : World) (g : Nat) (A : Option Addr) (c : Nat) (σ : Nt) : Prop :=
  w.heap[g]? = some (.cells #[.int .i64 σ.s, .int .i64 σ.c, .int .i64 σ.l, .slice A σ.ps.length c] 99 (0, 0)) ∧ PRow w A c σ.ps ∧ blk A ≠ some g
/-- What a method leaves. -/
def NetPost (w : World) (g : Nat) (A : Option Addr) (σ : Nt) (w' : World) : Prop :=
  ∃ A' c', NetP w' g A' c' σ ∧ (∀ k, blk A' = some k → blk A = some k ∨ w.heap.size ≤ k) ∧ Chg (Foot g A) w w'
section
variable {w w1 : World} {g : Nat} {A : Option Addr} {c : Nat} {σ : Nt}
theorem NetP.same (hc : Chg (Foot g A) w w1) (h1 : NetP w1 g A c σ) : NetPost w g A σ w1 := ⟨A, c, h1, fun _ hk => .inl hk, hc⟩
theorem NetP.lt (h : NetP w g A c σ) : g < w.heap.size := (Array.getElem?_eq_some_iff.1 h.1).1
theorem NetP.foot (h : NetP w g A c σ) : ∀ i, Foot g A i → i < w.heap.size := fun i hi => by
  rcases hi with rfl | hi
  · exact h.lt
  · exact h.2.1.lt hi
theorem NetP.chg {F : Nat → Prop} (h : NetP w g A c σ) (hc : Chg F w w1) (hF : ∀ i, Foot g A i → ¬ F i) : NetP w1 g A c σ :=
  ⟨(hc.block g h.lt (hF g (.inl rfl))).trans h.1, h.2.1.chg hc (fun k hk => hF k (.inr hk)), h.2.2⟩
theorem NetP.cells (h : NetP w g A c σ) :
    (w.cell? ⟨g, 0, none⟩ = some (.int .i64 σ.s) ∧ w.cell? ⟨g, 1, none⟩ = some (.int .i64 σ.c) ∧ w.cell? ⟨g, 2, none⟩ = some (.int .i64 σ.l) ∧ w.cell? ⟨g, 3, none⟩ = some (.slice A σ.ps.length c)) ∧
      w.frozen? ⟨g, 0, none⟩ = false ∧ w.frozen? ⟨g, 1, none⟩ = false ∧ w.frozen? ⟨g, 2, none⟩ = false ∧ w.frozen? ⟨g, 3, none⟩ = false := cells4 h.1
/-- A counter is written. -/
theorem NetP.setS (h : NetP w g A c σ) (x : Int) : NetP (w.setCell ⟨g, 0, none⟩ (.int .i64 x)) g A c ⟨x, σ.c, σ.l, σ.ps⟩ :=
  ⟨heap_setCell_same w g 0 _ _ _ h.1, h.2.1.chg (F := fun i => i = g) ((Chg.refl _ _).set g 0 _ (fun _ => rfl)) (fun _ hk e => h.2.2 (e ▸ hk)), h.2.2⟩
theorem NetP.setC (h : NetP w g A c σ) (x : Int) : NetP (w.setCell ⟨g, 1, none⟩ (.int .i64 x)) g A c ⟨σ.s, x, σ.l, σ.ps⟩ :=
  ⟨heap_setCell_same w g 1 _ _ _ h.1, h.2.1.chg (F := fun i => i = g) ((Chg.refl _ _).set g 1 _ (fun _ => rfl)) (fun _ hk e => h.2.2 (e ▸ hk)), h.2.2⟩
theorem NetP.setL (h : NetP w g A c σ) (x : Int) : NetP (w.setCell ⟨g, 2, none⟩ (.int .i64 x)) g A c ⟨σ.s, σ.c, x, σ.ps⟩ :=
  ⟨heap_setCell_same w g 2 _ _ _ h.1, h.2.1.chg (F := fun i => i = g) ((Chg.refl _ _).set g 2 _ (fun _ => rfl)) (fun _ hk e => h.2.2 (e ▸ hk)), h.2.2⟩
/-- Another row is written into the net. -/
theorem netP_setR {w : World} {g : Nat} {a b l : Int} {v : Value} {A : Option Addr} {c : Nat} {ps : List (Int × ByteArray)} (h : w.heap[g]? = some (.cells #[.int .i64 a, .int .i64 b, .int .i64 l, v] 99 (0, 0))) (hr : PRow w A c ps) (hne : blk A ≠ some g) :
    NetP (w.setCell ⟨g, 3, none⟩ (.slice A ps.length c)) g A c ⟨a, b, l, ps⟩ :=
  ⟨heap_setCell_same w g 3 _ _ _ h, hr.chg (F := fun i => i = g) ((Chg.refl _ _).set g 3 _ (fun _ => rfl)) (fun _ hk e => hne (e ▸ hk)), hne⟩
end

theorem netNew_any (w : World) : Calls Try.prog 28 #[] w fun e w' => e = .returned (.pointer (some ⟨w.heap.size, 0, none⟩)) ∧ NetP w' w.heap.size none 0 Nt.none ∧ Below w.heap.size w w' ∧ w'.heap.size = w.heap.size + 1 := by
  obtain ⟨hb, hg, hs⟩ := alloc1 w #[.int .i64 0, .int .i64 0, .int .i64 0, .slice none 0 0] 99
  go_enter Try.func28, Try.ntmps28
  go_wp2
  go_ret
  exact ⟨rfl, ⟨hg, PRow.nil _, by simp [blk]⟩, hb, hs⟩
theorem netLen_any (w : World) (g : Nat) (A : Option Addr) (c : Nat) (σ : Nt) (h : NetP w g A c σ) : Calls Try.prog 31 #[.pointer (some ⟨g, 0, none⟩)] w fun e w' => e = .returned (.int .i64 (σ.ps.length : Nat)) ∧ w = w' := by
  obtain ⟨⟨c0, c1, c2, c3⟩, _⟩ := h.cells
  clear h
  go_enter Try.func31, Try.ntmps31
  go_wp2
  go_ret
  exact ⟨rfl, rfl⟩
theorem netLen_nil (w : World) : Calls Try.prog 31 #[.pointer none] w fun e w' => e = .returned (.int .i64 0) ∧ w = w' := by
  go_enter Try.func31, Try.ntmps31
  go_wp2
  go_ret
  exact ⟨rfl, rfl⟩
theorem netHas_any (w : World) (g : Nat) (A : Option Addr) (c : Nat) (σ : Nt) (h : NetP w g A c σ) (i : Int) : Calls Try.prog 80 #[.pointer (some ⟨g, 0, none⟩), .int .i64 i] w fun e w' => e = .returned (.int .i64 (hasE σ i : Nat)) ∧ w = w' := by
  obtain ⟨⟨c0, c1, c2, c3⟩, _⟩ := h.cells
  clear h
  by_cases h0 : i < 0
  · have H := Lib.hid (show hasE σ i = 3 from hasE_out (by unfold inN; omega))
    go_enter Try.func80, Try.ntmps80
    go_wp2
    go_ret
    exact ⟨by rw [H.out]; rfl, rfl⟩
  · by_cases h1 : (σ.ps.length : Int) ≤ i
    · have H := Lib.hid (show hasE σ i = 3 from hasE_out (by unfold inN; omega))
      go_enter Try.func80, Try.ntmps80
      go_wp2
      go_ret
      exact ⟨by rw [H.out]; rfl, rfl⟩
    · have H := Lib.hid (show hasE σ i = 0 from hasE_in (by unfold inN; omega))
      go_enter Try.func80, Try.ntmps80
      go_wp2
      go_ret
      exact ⟨by rw [H.out]; rfl, rfl⟩
theorem netHas_nil (w : World) (i : Int) : Calls Try.prog 80 #[.pointer none, .int .i64 i] w fun e w' => e = .returned (.int .i64 1) ∧ w = w' := by
  go_enter Try.func80, Try.ntmps80
  go_wp2
  go_ret
  exact ⟨rfl, rfl⟩
theorem netCounts_any (w : World) (g : Nat) (A : Option Addr) (c : Nat) (σ : Nt) (h : NetP w g A c σ) : Calls Try.prog 30 #[.pointer (some ⟨g, 0, none⟩)] w fun e w' => e = .returned (.tuple #[.int .i64 σ.s, .int .i64 σ.c, .int .i64 σ.l]) ∧ Below w.heap.size w w' := by
  obtain ⟨⟨c0, c1, c2, c3⟩, _⟩ := h.cells
  clear h
  go_enter Try.func30, Try.ntmps30
  go_wp2_with fail
  go_quiet (fail)
  go_wp2_with fail
  go_ret3
  exact ⟨rfl, ⟨rfl, rfl, rfl, Nat.le_refl _, fun _ _ => rfl⟩⟩
theorem netCounts_nil (w : World) : Calls Try.prog 30 #[.pointer none] w fun e w' => e = .returned (.tuple #[.int .i64 0, .int .i64 0, .int .i64 0]) ∧ w = w' := by
  go_enter Try.func30, Try.ntmps30
  go_wp2
  go_ret3
  exact ⟨rfl, rfl⟩
theorem netDrop_nil (w : World) : Calls Try.prog 43 #[.pointer none] w fun e w' => e = .returned (.tuple #[]) ∧ w = w' := by
  go_enter Try.func43, Try.ntmps43
  go_wp2
  go_end0
  exact ⟨rfl, rfl⟩
end Go.Proofs.Ytiolfnnkkflaiaa
