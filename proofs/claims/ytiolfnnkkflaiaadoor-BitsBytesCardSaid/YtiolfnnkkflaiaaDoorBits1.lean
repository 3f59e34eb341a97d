/- Sets: how many, whether one is there, one less. -/
import Derived.Test.YtiolfnnkkflaiaaDoorOnes
import Derived.Test.YtiolfnnkkflaiaaDoorSetOf
import Derived.Test.YtiolfnnkkflaiaaDoorSet2
import Derived.Test.YtiolfnnkkflaiaaDoorBoxes
import Derived.Laws.Bits128
open Go.RowKit
namespace Go.Proofs.YtiolfnnkkflaiaaDoor

theorem u64_and (a b : Nat) (ha : a < 18446744073709551616) (hb : b < 18446744073709551616) : bits BinOp.and IntKind.u64 (a : Int) (b : Int) = ((a &&& b : Nat) : Int) := bits_and_u64_nat a b ha hb
theorem u64_wrap (a : Nat) (h : a < 18446744073709551616) : IntKind.u64.wrap (a : Int) = (a : Int) := by rw [IntKind.wrap_u64]; omega

theorem ones_any (x : Nat) (hx : x < 18446744073709551616) (w : World) :
    Calls Tryd.prog 30 #[.int .u64 x] w fun e w' => e = .returned (.int .i64 ((lo x).length : Nat)) ∧ w = w' := by
  rw [← oc6_eq]
  unfold oc6
  have a1 : (x / 2 &&& 6148914691236517205) ≤ 6148914691236517205 := Nat.and_le_right
  have a2 : (x &&& 6148914691236517205) ≤ 6148914691236517205 := Nat.and_le_right
  have a3 (y : Nat) : (y / 4 &&& 3689348814741910323) ≤ 3689348814741910323 := Nat.and_le_right
  have a4 (y : Nat) : (y &&& 3689348814741910323) ≤ 3689348814741910323 := Nat.and_le_right
  have a5 (y : Nat) : (y &&& 1085102592571150095) ≤ 1085102592571150095 := Nat.and_le_right
  have b1 : oc1 6148914691236517205 x ≤ 12297829382473034410 := by unfold oc1; omega
  have b2 (y : Nat) : oc2 3689348814741910323 y ≤ 7378697629483820646 := by have := a3 y; have := a4 y; unfold oc2; omega
  have b3 (y : Nat) : oc3 1085102592571150095 y ≤ 1085102592571150095 := by unfold oc3; exact a5 _
  have c2 := b2 (oc1 6148914691236517205 x)
  have c3 := b3 (oc2 3689348814741910323 (oc1 6148914691236517205 x))
  clear b2 b3
  generalize hy1 : oc1 6148914691236517205 x = y1 at b1 c2 c3 ⊢
  generalize hy2 : oc2 3689348814741910323 y1 = y2 at c2 c3 ⊢
  generalize hy3 : oc3 1085102592571150095 y2 = y3 at c3 ⊢
  simp only []
  refine ones_core x (x / 2 &&& 6148914691236517205) (x &&& 6148914691236517205) y1 (y1 / 4 &&& 3689348814741910323) (y1 &&& 3689348814741910323) y2 (y2 / 16 + y2) y3 (y3 + y3 / 256) (y3 + y3 / 256 + (y3 + y3 / 256) / 65536)
    (y3 + y3 / 256 + (y3 + y3 / 256) / 65536 + (y3 + y3 / 256 + (y3 + y3 / 256) / 65536) / 4294967296) _ w ?_ ?_ ?_ ?_ ?_ ?_ ?_ ?_ ?_ ?_ ?_ ?_ ?_
  · exact u64_and (x / 2) 6148914691236517205 (by omega) (by omega)
  · exact u64_and x 6148914691236517205 hx (by omega)
  · rw [← hy1]; exact u64_wrap ((x / 2 &&& 6148914691236517205) + (x &&& 6148914691236517205)) (by omega)
  · exact u64_and (y1 / 4) 3689348814741910323 (by omega) (by omega)
  · exact u64_and y1 3689348814741910323 (by omega) (by omega)
  · rw [← hy2]; exact u64_wrap ((y1 / 4 &&& 3689348814741910323) + (y1 &&& 3689348814741910323)) (by have := a3 y1; have := a4 y1; omega)
  · exact u64_wrap (y2 / 16 + y2) (by omega)
  · rw [← hy3]; exact u64_and (y2 / 16 + y2) 1085102592571150095 (by omega) (by omega)
  · exact u64_wrap (y3 + y3 / 256) (by omega)
  · exact u64_wrap (y3 + y3 / 256 + (y3 + y3 / 256) / 65536) (by omega)
  · exact u64_wrap (y3 + y3 / 256 + (y3 + y3 / 256) / 65536 + (y3 + y3 / 256 + (y3 + y3 / 256) / 65536) / 4294967296) (by omega)
  · unfold wrap64; omega
  · rw [i64_and127]; omega

/-- A set, as cells. -/
def sv2 (a b : Nat) : Array Value := #[.int .u64 a, .int .u64 b]
def wd (a b k : Nat) : Nat := if k = 0 then a else b
theorem sv2_get (a b k : Nat) (hk : k < 2) : (sv2 a b)[k]? = some (.int .u64 (wd a b k : Nat)) := by
  rcases (by omega : k = 0 ∨ k = 1) with rfl | rfl <;> rfl
theorem sv2_set (a b k v : Nat) (hk : k < 2) : (sv2 a b).setIfInBounds k (.int .u64 (v : Nat)) = sv2 (if k = 0 then v else a) (if k = 0 then b else v) := by
  rcases (by omega : k = 0 ∨ k = 1) with rfl | rfl <;> rfl
theorem wd_lt (a b k : Nat) (ha : a < 18446744073709551616) (hb : b < 18446744073709551616) : wd a b k < 18446744073709551616 := by unfold wd; split <;> assumption
theorem index_set (t : TypeId) (e : TypeId) (ht : Tryd.prog.underlying t = some (.array 2 e)) (a b k : Nat) (hk : k < 2) (h : ∀ W : World, (Instr.index t (.agg #[.int .u64 a, .int .u64 b]) (.int .i64 0)).run Tryd.prog W = .ok (.int .u64 a) W ∧ (Instr.index t (.agg #[.int .u64 a, .int .u64 b]) (.int .i64 1)).run Tryd.prog W = .ok (.int .u64 b) W) (W : World) :
    (Instr.index t (.agg #[.int .u64 a, .int .u64 b]) (.int .i64 (k : Int))).run Tryd.prog W = .ok (.int .u64 (wd a b k : Nat)) W := by
  rcases (by omega : k = 0 ∨ k = 1) with rfl | rfl
  · exact (h W).1
  · exact (h W).2

set_option maxRecDepth 100000 in
theorem count_any (a b : Nat) (ha : a < 18446744073709551616) (hb : b < 18446744073709551616) (w : World) :
    Calls Tryd.prog 15 #[.agg #[.int .u64 a, .int .u64 b]] w fun e w' => e = .returned (.int .i64 ((lst a b).length : Nat)) ∧ Below w.heap.size w w' := by
  obtain ⟨hb1, _, _⟩ := alloc1 w #[.int .u64 a, .int .u64 b] 26
  have i0 : ∀ W : World, (Instr.index 26 (.agg #[.int .u64 a, .int .u64 b]) (.int .i64 0)).run Tryd.prog W = .ok (.int .u64 a) W := fun W => by kernel_rfl
  have i1 : ∀ W : World, (Instr.index 26 (.agg #[.int .u64 a, .int .u64 b]) (.int .i64 1)).run Tryd.prog W = .ok (.int .u64 b) W := fun W => by kernel_rfl
  have H1 := Lib.hid (ones_any a ha)
  have H2 := Lib.hid (ones_any b hb)
  have Hl := Lib.hid (lst_length a b)
  have l1 := lo_len a
  have l2 := lo_len b
  generalize (lo a).length = p at H1 Hl l1
  generalize (lo b).length = q at H2 Hl l2
  clear ha hb
  go_enter Tryd.func15, Tryd.ntmps15
  go_wp2_with fail
  generalize w.alloc (.cells #[.int .u64 a, .int .u64 b] 26) = w1 at hb1 ⊢
  have Hb1 := Lib.hid hb1
  clear hb1
  refine wp_loop_rounds 3 ?_
  rw [rounds_succ]
  go_wp2_with fail
  refine (H1.out w1).mono ?_
  rintro e w2 ⟨rfl, rfl⟩
  go_wp2_with fail
  rw [rounds_succ]
  go_wp2_with fail
  refine (H2.out w1).mono ?_
  rintro e w2 ⟨rfl, rfl⟩
  go_wp2_with fail
  rw [rounds_succ]
  go_wp2_with fail
  go_ret
  exact ⟨by rw [Hl.out]; rfl, Hb1.out⟩
end Go.Proofs.YtiolfnnkkflaiaaDoor
