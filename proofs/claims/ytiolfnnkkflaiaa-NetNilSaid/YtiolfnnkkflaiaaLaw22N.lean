/- The law of a net that is not there. -/
import Derived.Test.YtiolfnnkkflaiaaNet7
open Go.RowKit
namespace Go.Proofs.Ytiolfnnkkflaiaa

set_option maxHeartbeats 1000000 in
set_option maxRecDepth 100000 in
theorem netNil_any (i : Int) (b : ByteArray) (hb : b.size ≤ 140737488351232) (W : World) : Calls Try.prog 8 #[.int .i64 i, .string b] W fun e w' => e = .returned (.bool true) ∧ Below W.heap.size W w' := by
  go_enter Try.func8, Try.ntmps8
  go_wp2_with fail
  refine (netDrop_nil _).mono ?_
  rintro e w1 ⟨rfl, rfl⟩
  go_wp2_with fail
  refine (netAt_nil _ i).mono ?_
  rintro e w1 ⟨rfl, hb1⟩
  go_wp2_with fail
  refine (netTake_nil _ i).mono ?_
  rintro e w2 ⟨rfl, hb2⟩
  have hb1 := hb1.alloc (o := .cells #[.int .i64 0, .string ⟨#[]⟩] 70) hb1.size
  have Hb2 := Lib.hid (hb1.trans (hb2.mono (B' := W.heap.size) hb1.size))
  clear hb1 hb2
  go_wp2_with fail
  refine (netCounts_nil _).mono ?_
  rintro e w3 ⟨rfl, rfl⟩
  go_wp2_with fail
  refine (netLen_nil _).mono ?_
  rintro e w3 ⟨rfl, rfl⟩
  obtain ⟨hb4, _, _⟩ := alloc1 w2 #[.int .i64 0, .string ⟨#[]⟩] 70
  have Hb2 := Lib.hid (Hb2.out.trans (hb4.mono (B' := W.heap.size) Hb2.out.size))
  clear hb4
  generalize w2.alloc (.cells #[.int .i64 0, .string ⟨#[]⟩] 70) = w4 at Hb2 ⊢
  obtain ⟨c, w5, hrun, _, _, hb5, _⟩ := bytes_made w4 b
  have Hb2 := Lib.hid (Hb2.out.trans (hb5.mono (B' := W.heap.size) Hb2.out.size))
  clear hb5
  go_wp2_with fail
  refine (netSend_nil _ 0 _).mono ?_
  rintro e w6 ⟨rfl, rfl⟩
  clear hrun
  go_wp2_with fail
  refine (netLose_nil _ i).mono ?_
  rintro e w6 ⟨rfl, rfl⟩
  go_wp2_with fail
  refine (netTwice_nil _ i).mono ?_
  rintro e w6 ⟨rfl, rfl⟩
  go_wp2_with fail
  refine (netCut_nil _ i 0).mono ?_
  rintro e w6 ⟨rfl, rfl⟩
  go_wp2_with fail
  refine (netCopy_nil _).mono ?_
  rintro e w6 ⟨rfl, rfl⟩
  go_wp2_with fail
  refine (known22_any _).mono ?_
  rintro e w6 ⟨rfl, hb6⟩
  have Hb2 := Lib.hid (Hb2.out.trans (hb6.mono (B' := W.heap.size) Hb2.out.size))
  clear hb6
  go_wp2_with fail
  go_ret
  exact ⟨rfl, Hb2.out⟩
end Go.Proofs.Ytiolfnnkkflaiaa
