/- Nets: what must come of fixed calls. -/
import Derived.Test.YtiolfnnkkflaiaaNet6
import Derived.Test.YtiolfnnkkflaiaaPkEq
import Derived.Lib.SlBytesConst
open Go.RowKit
namespace Go.Proofs.Ytiolfnnkkflaiaa

/-- Behind a method: the net stands where it stood, all that was below B is as it was. -/
theorem NetPost.next {B : Nat} {w0 w w' : World} {g : Nat} {A : Option Addr} {σ : Nt} (hp : NetPost w g A σ w') (hb : Below B w0 w) (hB : B ≤ w0.heap.size) (hg : B ≤ g) (hA : ∀ k, blk A = some k → B ≤ k) :
    ∃ A' c', NetP w' g A' c' σ ∧ Below B w0 w' ∧ (∀ k, blk A' = some k → B ≤ k) := by
  obtain ⟨A', c', h1, h2, h3⟩ := hp
  refine ⟨A', c', h1, hb.trans (h3.below (fun i hi hf => ?_) (Nat.le_trans hB hb.size)), fun k hk => ?_⟩
  · rcases hf with rfl | hf
    · omega
    · have := hA i hf; omega
  · rcases h2 k hk with h | h
    · exact hA k h
    · have := hb.size; omega

def ab : ByteArray := ⟨[97, 98].toArray⟩
def ab1 : ByteArray := ⟨[97].toArray⟩
def net1 : Nt := ⟨1, 0, 0, [(1, ab)]⟩
def net2 : Nt := ⟨2, 0, 0, [(1, ab), (1, ab)]⟩
def net3 : Nt := ⟨2, 1, 0, [(1, ab)]⟩
def net4 : Nt := ⟨2, 1, 0, [(1, ab1)]⟩
theorem net1_is : sendE Nt.none 1 = 0 ∧ sendN Nt.none 1 ⟨[97, 98].toArray⟩ = net1 := ⟨rfl, rfl⟩
theorem net2_is : twiceE net1 0 = 0 ∧ twiceN net1 0 = net2 := ⟨by decide, rfl⟩
theorem net3_is : hasE net2 0 = 0 ∧ pAt net2 0 = (1, ab) ∧ takeN net2 0 = net3 := ⟨by decide, rfl, rfl⟩
theorem net4_is : cutE net3 0 1 = 0 ∧ cutN net3 0 1 = net4 := ⟨by decide, rfl⟩
theorem net5_is : hasE net4 0 = 0 ∧ pAt net4 0 = (1, ab1) := ⟨by decide, rfl⟩
theorem nets_ok : Nt.none.ok ∧ net1.ok ∧ net2.ok ∧ net3.ok ∧ net4.ok := by
  refine ⟨?_, ?_, ?_, ?_, ?_⟩ <;> (unfold Nt.ok; decide)

set_option maxHeartbeats 1000000 in
set_option maxRecDepth 100000 in
theorem known22_any (W : World) : Calls Try.prog 27 #[] W fun e w' => e = .returned (.bool true) ∧ Below W.heap.size W w' := by
  go_enter Try.func27, Try.ntmps27
  go_wp2_with fail
  refine (netNew_any W).mono ?_
  rintro e w1 ⟨rfl, hN1, hb1, -⟩
  generalize hgW : W.heap.size = g at hN1 hb1 ⊢
  have HB := Lib.hid (Nat.le_of_eq hgW.symm)
  have Hg := Lib.hid hgW
  clear hgW
  have HN := Lib.hid hN1
  have Hb := Lib.hid hb1
  have hcv := Go.Lib.run_convert_bytes_const (P := Try.prog) w1 74 5 #[.int .u8 97, .int .u8 98] 2 2 Try.underlying74 Try.underlying5
  clear hN1 hb1
  go_wp2_with fail
  obtain ⟨hb, hr⟩ : Below w1.heap.size w1 (w1.alloc (.cells #[.int .u8 97, .int .u8 98] 5 (2, 3))) ∧ Reads (w1.alloc (.cells #[.int .u8 97, .int .u8 98] 5 (2, 3))) 1 (some ⟨w1.heap.size, 0, none⟩) 2 (bv [97, 98]) :=
    ⟨(Below.refl _ _).alloc (Nat.le_refl _) _, Reads.of_block (n := 2) (heap_alloc_new _ _) rfl⟩
  have hN := HN.out.chg (F := fun _ => False) (.of_below hb) (fun _ _ f => f)
  have hb := Hb.out.trans (hb.mono (B' := g) (by have := HN.out.lt; omega))
  clear hcv
  refine (netSend_any _ g none 0 Nt.none nets_ok.1 hN 1 (some ⟨w1.heap.size, 0, none⟩) [97, 98] 2 hr).mono ?_
  rintro e w2 ⟨rfl, hp⟩
  rw [net1_is.1, show ((0 : Nat) : Int) = 0 from rfl]
  rw [net1_is.2] at hp
  clear hN hr
  obtain ⟨A2, c2, hN, hb, hA⟩ := hp.next hb HB.out (Nat.le_refl g) (by simp [blk])
  clear hp
  have HT := Lib.hid (netTwice_any w2 g A2 c2 net1 nets_ok.2.1 hN 0)
  have Hb := Lib.hid hb
  have HA := Lib.hid hA
  clear hN hb hA
  go_wp2_with fail
  refine HT.out.mono ?_
  rintro e w3 ⟨rfl, hp⟩
  rw [net2_is.1, show ((0 : Nat) : Int) = 0 from rfl]
  rw [net2_is.2] at hp
  obtain ⟨A3, c3, hN, hb, hA⟩ := hp.next Hb.out HB.out (Nat.le_refl g) HA.out
  clear hp Hb HA HT
  have HN := Lib.hid hN
  have Hb := Lib.hid hb
  have HA := Lib.hid hA
  clear hN hb hA
  go_wp2_with fail
  refine (netTake_any w3 g A3 c3 net2 nets_ok.2.2.1 HN.out 0).mono ?_
  rintro e w4 ⟨rfl, hp⟩
  rw [net3_is.1, net3_is.2.1, show ((0 : Nat) : Int) = 0 from rfl]
  rw [net3_is.2.2] at hp
  simp only
  obtain ⟨A4, c4, hN, hb, hA⟩ := hp.next Hb.out HB.out (Nat.le_refl g) HA.out
  clear hp Hb HA HN
  have HN := Lib.hid hN
  have Hb := Lib.hid hb
  have HA := Lib.hid hA
  clear hN hb hA
  go_wp2_with fail
  obtain ⟨hbp, hgp, hsp⟩ := alloc1 w4 #[.int .i64 1, .string ab] 70
  have hN := HN.out.chg (F := fun _ => False) (.of_below hbp) (fun _ _ f => f)
  have hb := Hb.out.trans (hbp.mono (B' := g) (by have := HN.out.lt; omega))
  have hf := HN.out.foot
  have hlt : g < w4.heap.size := HN.out.lt
  generalize w4.alloc (.cells #[.int .i64 1, .string ab] 70) = w5 at hN hb hgp hsp ⊢
  generalize w4.heap.size = gp at hgp hf hsp hlt ⊢
  refine (netCut_any w5 g A4 c4 net3 hN 0 1).mono ?_
  rintro e w6 ⟨rfl, hp⟩
  rw [net4_is.1, show ((0 : Nat) : Int) = 0 from rfl]
  rw [net4_is.2] at hp
  have hgp6 : w6.heap[gp]? = some (.cells #[.int .i64 1, .string ab] 70 (0, 0)) := by
    obtain ⟨_, _, _, _, hC⟩ := hp
    exact (hC.block gp (by omega) (fun hh => by have := hf gp hh; omega)).trans hgp
  obtain ⟨A6, c6, hN6, hb6, hA6⟩ := hp.next hb HB.out (Nat.le_refl g) HA.out
  clear hp Hb HA HN hN hb hf hgp hsp hbp
  have HN := Lib.hid hN6
  have Hb := Lib.hid hb6
  have Hlt := Lib.hid hlt
  have Hgp := Lib.hid hgp6
  clear hN6 hb6 hA6 hlt hgp6
  go_wp2_with fail
  refine (netAt_any w6 g A6 c6 net4 HN.out 0).mono ?_
  rintro e w7 ⟨rfl, hb⟩
  rw [net5_is.1, net5_is.2, show ((0 : Nat) : Int) = 0 from rfl]
  simp only
  have hg6 : g < w6.heap.size := HN.out.lt
  have HN := Lib.hid (HN.out.chg (F := fun _ => False) (.of_below hb) (fun _ _ f => f))
  have Hb := Lib.hid (Hb.out.trans (hb.mono (B' := g) (by omega)))
  have hgp := (hb.block gp (by exact (Array.getElem?_eq_some_iff.1 Hgp.out).1)).trans Hgp.out
  obtain ⟨hbq, hgq, hsq⟩ := alloc1 w7 #[.int .i64 1, .string ab1] 70
  have hgp8 := (hbq.block gp (by exact (Array.getElem?_eq_some_iff.1 hgp).1)).trans hgp
  have HN := Lib.hid (HN.out.chg (F := fun _ => False) (.of_below hbq) (fun _ _ f => f))
  have HL := Lib.hid (netLen_any _ g A6 c6 net4 HN.out)
  have Hb := Lib.hid (Hb.out.trans (hbq.mono (B' := g) (by have := (Array.getElem?_eq_some_iff.1 hgp).1; have := Hlt.out; omega)))
  obtain ⟨p0, p1, _, _⟩ := cells2 hgp8
  obtain ⟨q0, q1, _, _⟩ := cells2 hgq
  have e1 : ab.toList = [97, 98] := by rw [ByteArray.toList_eq]; rfl
  have e2 : ab1.toList = [97] := by rw [ByteArray.toList_eq]; rfl
  clear hb hgp hbq hgq hsq hgp8 Hgp hg6
  go_wp2_with fail
  refine HL.out.mono ?_
  rintro e w9 ⟨rfl, rfl⟩
  rw [show (net4.ps.length : Int) = 1 from rfl]
  go_wp2_with fail
  go_ret
  exact ⟨rfl, Hg.out ▸ Hb.out⟩
end Go.Proofs.Ytiolfnnkkflaiaa
