/- math/bits.OnesCount64, and how many a set has. -/
import Derived.Test.YtiolfnnkkflaiaaDoorPop
import Derived.Test.YtiolfnnkkflaiaaDoorSetList2
import Derived.Laws.BitsLemmas
open Go.RowKit
namespace Go.Proofs.YtiolfnnkkflaiaaDoor

set_option maxRecDepth 100000 in
theorem ones_core (x A B y1 C D y2 E y3 y4 y5 y6 r : Nat) (w : World)
    (k1 : bits BinOp.and IntKind.u64 ((x : Int) / 2) 6148914691236517205 = (A : Int)) (k2 : bits BinOp.and IntKind.u64 (x : Int) 6148914691236517205 = (B : Int)) (k3 : IntKind.u64.wrap ((A : Int) + (B : Int)) = (y1 : Int))
    (k4 : bits BinOp.and IntKind.u64 ((y1 : Int) / 4) 3689348814741910323 = (C : Int)) (k5 : bits BinOp.and IntKind.u64 (y1 : Int) 3689348814741910323 = (D : Int)) (k6 : IntKind.u64.wrap ((C : Int) + (D : Int)) = (y2 : Int))
    (k7 : IntKind.u64.wrap ((y2 : Int) / 16 + (y2 : Int)) = (E : Int)) (k8 : bits BinOp.and IntKind.u64 (E : Int) 1085102592571150095 = (y3 : Int))
    (k9 : IntKind.u64.wrap ((y3 : Int) + (y3 : Int) / 256) = (y4 : Int)) (k10 : IntKind.u64.wrap ((y4 : Int) + (y4 : Int) / 65536) = (y5 : Int)) (k11 : IntKind.u64.wrap ((y5 : Int) + (y5 : Int) / 4294967296) = (y6 : Int))
    (k12 : wrap64 (y6 : Int) = (y6 : Int)) (k13 : bits BinOp.and IntKind.i64 (y6 : Int) 127 = (r : Int)) :
    Calls Tryd.prog 30 #[.int .u64 x] w fun e w' => e = .returned (.int .i64 r) ∧ w = w' := by
  go_enter Tryd.func30, Tryd.ntmps30
  go_wp2_with fail
  go_ret
  exact ⟨rfl, rfl⟩
end Go.Proofs.YtiolfnnkkflaiaaDoor
