/- Whether numbers are within bounds; the powers of four waves. -/
import Derived.Test.YtlfclpdcingpnaaDoorMarksMath
open Go.RowKit
namespace Go.Proofs.YtlfclpdcingpnaaDoor
attribute [local go_sem] store_f store_c

/-- All four from -m to m. -/
def okk (m v : Int) : Prop := ¬ m < v ∧ ¬ v < -m
instance (m v : Int) : Decidable (okk m v) := by unfold okk; infer_instance
def win (m x0 x1 x2 x3 : Int) : Prop := okk m x0 ∧ okk m x1 ∧ okk m x2 ∧ okk m x3
instance (m a b c d : Int) : Decidable (win m a b c d) := by unfold win; infer_instance

set_option maxHeartbeats 1000000 in
set_option maxRecDepth 100000 in
theorem within_any (x0 x1 x2 x3 m : Int) (hm : wrap64 (-m) = -m) (w : World) :
    Calls Tryd.prog 20 #[.agg #[.int .i64 x0, .int .i64 x1, .int .i64 x2, .int .i64 x3], .int .i64 m] w fun e w' => e = .returned (.bool (decide (win m x0 x1 x2 x3))) ∧ Below w.heap.size w w' := by
  have hg := heap_alloc_new w (.cells #[.int .i64 x0, .int .i64 x1, .int .i64 x2, .int .i64 x3] 47)
  have c0 : (w.alloc (.cells #[.int .i64 x0, .int .i64 x1, .int .i64 x2, .int .i64 x3] 47)).cell? ⟨w.heap.size, 0, none⟩ = some (.int .i64 x0) := by rw [cell_of_row _ _ _ _ _ _ hg]; rfl
  have c1 : (w.alloc (.cells #[.int .i64 x0, .int .i64 x1, .int .i64 x2, .int .i64 x3] 47)).cell? ⟨w.heap.size, 1, none⟩ = some (.int .i64 x1) := by rw [cell_of_row _ _ _ _ _ _ hg]; rfl
  have c2 : (w.alloc (.cells #[.int .i64 x0, .int .i64 x1, .int .i64 x2, .int .i64 x3] 47)).cell? ⟨w.heap.size, 2, none⟩ = some (.int .i64 x2) := by rw [cell_of_row _ _ _ _ _ _ hg]; rfl
  have c3 : (w.alloc (.cells #[.int .i64 x0, .int .i64 x1, .int .i64 x2, .int .i64 x3] 47)).cell? ⟨w.heap.size, 3, none⟩ = some (.int .i64 x3) := by rw [cell_of_row _ _ _ _ _ _ hg]; rfl
  have hb := (Below.refl w.heap.size w).alloc (Nat.le_refl _) (.cells #[.int .i64 x0, .int .i64 x1, .int .i64 x2, .int .i64 x3] 47)
  go_enter Tryd.func20, Tryd.ntmps20
  go_wp2
  generalize w.alloc (.cells #[.int .i64 x0, .int .i64 x1, .int .i64 x2, .int .i64 x3] 47) = w1 at c0 c1 c2 c3 hb ⊢
  have Hb := Lib.hid hb
  clear hg hb
  go_loopw [5] (fun i wr => ∃ j : Nat, j ≤ 4 ∧ i = .int .i64 j ∧ Hid ((0 < j → okk m x0) ∧ (1 < j → okk m x1) ∧ (2 < j → okk m x2) ∧ (3 < j → okk m x3)) ∧ wr = w1) (fun i _ => 4 - (intOf i).toNat)
  case atStart => exact ⟨0, by omega, rfl, ⟨by omega, by omega, by omega, by omega⟩, rfl⟩
  case round =>
    obtain ⟨j, hj, rfl, Hok, rfl⟩ := hrel
    rcases (by omega : j = 0 ∨ j = 1 ∨ j = 2 ∨ j = 3 ∨ j = 4) with rfl | rfl | rfl | rfl | rfl
    · rw [show ((0 : Nat) : Int) = 0 from rfl]
      by_cases h1 : m < x0
      · go_wp2
        go_ret
        refine ⟨?_, Hb.out⟩
        rw [decide_eq_false (fun hw : win m x0 x1 x2 x3 => hw.1.1 h1)]; rfl
      by_cases h2 : x0 < -m
      · go_wp2
        go_ret
        refine ⟨?_, Hb.out⟩
        rw [decide_eq_false (fun hw : win m x0 x1 x2 x3 => hw.1.2 h2)]; rfl
      go_wp2
      case roundEnd =>
        exact ⟨⟨0 + 1, by omega, rfl, Lib.hid ⟨fun _ => ⟨h1, h2⟩, by omega, by omega, by omega⟩, trivial⟩, by simp [intOf]⟩
    · rw [show ((1 : Nat) : Int) = 1 from rfl]
      by_cases h1 : m < x1
      · go_wp2
        go_ret
        refine ⟨?_, Hb.out⟩
        rw [decide_eq_false (fun hw : win m x0 x1 x2 x3 => hw.2.1.1 h1)]; rfl
      by_cases h2 : x1 < -m
      · go_wp2
        go_ret
        refine ⟨?_, Hb.out⟩
        rw [decide_eq_false (fun hw : win m x0 x1 x2 x3 => hw.2.1.2 h2)]; rfl
      go_wp2
      case roundEnd =>
        exact ⟨⟨1 + 1, by omega, rfl, Lib.hid ⟨fun _ => Hok.out.1 (by omega), fun _ => ⟨h1, h2⟩, by omega, by omega⟩, trivial⟩, by simp [intOf]⟩
    · rw [show ((2 : Nat) : Int) = 2 from rfl]
      by_cases h1 : m < x2
      · go_wp2
        go_ret
        refine ⟨?_, Hb.out⟩
        rw [decide_eq_false (fun hw : win m x0 x1 x2 x3 => hw.2.2.1.1 h1)]; rfl
      by_cases h2 : x2 < -m
      · go_wp2
        go_ret
        refine ⟨?_, Hb.out⟩
        rw [decide_eq_false (fun hw : win m x0 x1 x2 x3 => hw.2.2.1.2 h2)]; rfl
      go_wp2
      case roundEnd =>
        exact ⟨⟨2 + 1, by omega, rfl, Lib.hid ⟨fun _ => Hok.out.1 (by omega), fun _ => Hok.out.2.1 (by omega), fun _ => ⟨h1, h2⟩, by omega⟩, trivial⟩, by simp [intOf]⟩
    · rw [show ((3 : Nat) : Int) = 3 from rfl]
      by_cases h1 : m < x3
      · go_wp2
        go_ret
        refine ⟨?_, Hb.out⟩
        rw [decide_eq_false (fun hw : win m x0 x1 x2 x3 => hw.2.2.2.1 h1)]; rfl
      by_cases h2 : x3 < -m
      · go_wp2
        go_ret
        refine ⟨?_, Hb.out⟩
        rw [decide_eq_false (fun hw : win m x0 x1 x2 x3 => hw.2.2.2.2 h2)]; rfl
      go_wp2
      case roundEnd =>
        exact ⟨⟨3 + 1, by omega, rfl, Lib.hid ⟨fun _ => Hok.out.1 (by omega), fun _ => Hok.out.2.1 (by omega), fun _ => Hok.out.2.2.1 (by omega), fun _ => ⟨h1, h2⟩⟩, trivial⟩, by simp [intOf]⟩
    · rw [show ((4 : Nat) : Int) = 4 from rfl]
      go_wp2
      go_ret
      refine ⟨?_, Hb.out⟩
      rw [decide_eq_true (show win m x0 x1 x2 x3 from ⟨Hok.out.1 (by omega), Hok.out.2.1 (by omega), Hok.out.2.2.1 (by omega), Hok.out.2.2.2 (by omega)⟩)]; rfl
end Go.Proofs.YtlfclpdcingpnaaDoor
