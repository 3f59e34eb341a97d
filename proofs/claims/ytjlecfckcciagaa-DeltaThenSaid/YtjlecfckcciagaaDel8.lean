/- Sectors that are filled; what must come of fixed calls. -/
import Derived.Test.YtjlecfckcciagaaDel7
open Go.RowKit
namespace Go.Proofs.Ytjlecfckcciagaa

def fillS (c : UInt8) : ByteArray := ⟨(List.replicate 64 c).toArray⟩
set_option maxHeartbeats 1000000 in
set_option maxRecDepth 100000 in
theorem fill_any (c : UInt8) (w : World) : Calls Try.prog 12 #[.int .u8 (c.toNat : Int)] w fun e w' => e = .returned (.string (fillS c)) ∧ Below w.heap.size w w' := by
  go_enter Try.func12, Try.ntmps12
  go_wp2_with fail
  go_loopw [3, 4] (fun v i wr => ∃ (k : Nat) (A1 : Option Addr) (c1 : Nat) (L : List UInt8), k ≤ 64 ∧ v = .slice A1 L.length c1 ∧ i = .int .i64 k ∧ Hid (L = List.replicate k c) ∧ Hid (OwnB wr w.heap.size A1 c1 L) ∧ Hid (Below w.heap.size w wr)) (fun _ i _ => 64 - (intOf i).toNat)
  case atStart => exact ⟨0, none, 0, [], Nat.zero_le _, rfl, rfl, Lib.hid rfl, Lib.hid (OwnB.nil _ _), Lib.hid (Below.refl _ _)⟩
  case round =>
    obtain ⟨k, A1, c1, L, hk, rfl, rfl, HL, HO, Hb⟩ := hrel
    by_cases hlt : k < 64
    · have Hrb := Lib.hid (show Reads (wr.alloc (.cells #[.int .u8 (c.toNat : Int)] 5)) 1 (some ⟨wr.heap.size, 0, none⟩) [c].length (bv [c]) from Reads.of_block (n := 1) (heap_alloc_new _ _) rfl)
      have Hlen := Lib.hid (show L.length + [c].length ≤ 140737488355328 by rw [HL.out]; simp; omega)
      have Hsz := Lib.hid Hb.out.size
      go_wp2_with (at_builtin; refine wpList_append_bytes w w.heap.size rfl (.tmp 9) (.tmp 11) rfl A1 c1 L rfl (HO.out.alloc _) (some ⟨wr.heap.size, 0, none⟩) 1 [c] rfl Hrb.out Hlen.out (Hb.out.alloc Hsz.out _) (by have := Hsz.out; simp; omega) ?_)
      intro A2 c2 L2 w2 hL2 how2 hb2 hB2
      have Ho2 := Lib.hid how2
      have Hb2 := Lib.hid hb2
      have HL2 := Lib.hid (show L2 = List.replicate (k + 1) c by rw [hL2.out, HL.out, List.replicate_succ'])
      clear how2 hb2 hL2
      go_wp2_with fail
      case roundEnd =>
        exact ⟨⟨k + 1, A2, c2, L2, by omega, rfl, by push_cast; rfl, HL2, Ho2, Hb2⟩, by simp only [intOf]; omega⟩
    · obtain rfl : k = 64 := by omega
      have hcv : (convert 49 9 (.slice A1 L.length c1)).run Try.prog wr = .ok (.string ⟨L.toArray⟩) wr := run_string_of_bytes c1 HO.out.reads
      have HF := Lib.hid (show (⟨L.toArray⟩ : ByteArray) = fillS c by rw [HL.out]; rfl)
      go_wp2_with fail
      go_ret
      exact ⟨by rw [← HF.out]; rfl, Hb.out⟩

def ka : List ByteArray := [fillS 1, fillS 2]
def kb : List ByteArray := [fillS 1, fillS 3]
theorem known_make : makeE ka kb = 0 ∧ makeL ka kb = [((1 : Int), fillS 3)] ∧ makeE ka [] = 8 ∧ makeL ka [] = [] ∧ mayE ka.length [((1 : Int), fillS 3)] = 0 ∧ applyR ka [((1 : Int), fillS 3)] = kb ∧ rightP [((1 : Int), fillS 3)] = true := by
  refine ⟨?_, ?_, ?_, ?_, ?_, ?_, ?_⟩ <;> decide +kernel

set_option maxHeartbeats 1000000 in
set_option maxRecDepth 100000 in
theorem known42_any (W : World) : Calls Try.prog 6 #[] W fun e w' => e = .returned (.bool true) ∧ Below W.heap.size W w' := by
  have H1 := Lib.hid (fill_any 1 W)
  go_enter Try.func6, Try.ntmps6
  go_wp2_with fail
  refine H1.out.mono ?_
  rintro e w1 ⟨rfl, hb1⟩
  have H2 := Lib.hid (fill_any 2 w1)
  have Hb1 := Lib.hid hb1
  clear hb1 H1
  go_wp2_with fail
  refine H2.out.mono ?_
  rintro e w2 ⟨rfl, hb2⟩
  obtain ⟨hba, hga, _⟩ := alloc1 w2 #[.string (fillS 1), .string (fillS 2)] 9
  have hb := hb2.trans (hba.mono (B' := w1.heap.size) hb2.size)
  have Hb2 := Lib.hid (Hb1.out.trans (hb.mono (B' := W.heap.size) Hb1.out.size))
  have HRa := Lib.hid (show Reads (w2.alloc (.cells #[.string (fillS 1), .string (fillS 2)] 9)) 1 (some ⟨w2.heap.size, 0, none⟩) ka.length (sts ka) from Reads.of_block (n := 2) hga rfl)
  clear hb2 hba hga hb Hb1 H2
  go_wp2_with fail
  generalize w2.alloc (.cells #[.string (fillS 1), .string (fillS 2)] 9) = w3 at Hb2 HRa ⊢
  generalize w2.heap.size = ga at HRa ⊢
  have H3 := Lib.hid (fill_any 1 w3)
  refine H3.out.mono ?_
  rintro e w4 ⟨rfl, hb4⟩
  have H4 := Lib.hid (fill_any 3 w4)
  have Hb4 := Lib.hid hb4
  clear hb4 H3
  go_wp2_with fail
  refine H4.out.mono ?_
  rintro e w5 ⟨rfl, hb5⟩
  obtain ⟨hba, hga, _⟩ := alloc1 w5 #[.string (fillS 1), .string (fillS 3)] 9
  have hb := Hb4.out.trans ((hb5.trans (hba.mono (B' := w4.heap.size) hb5.size)).mono (B' := w3.heap.size) Hb4.out.size)
  have Hb5 := Lib.hid (Hb2.out.trans (hb.mono (B' := W.heap.size) Hb2.out.size))
  have HRa := Lib.hid (HRa.out.below hb)
  have HRb := Lib.hid (show Reads (w5.alloc (.cells #[.string (fillS 1), .string (fillS 3)] 9)) 1 (some ⟨w5.heap.size, 0, none⟩) kb.length (sts kb) from Reads.of_block (n := 2) hga rfl)
  clear hb5 hba hga hb Hb4 H4 Hb2
  go_wp2_with fail
  generalize w5.alloc (.cells #[.string (fillS 1), .string (fillS 3)] 9) = w6 at Hb5 HRa HRb ⊢
  generalize w5.heap.size = gb at HRb ⊢
  obtain ⟨k1, k2, k3, k4, k5, k6, k7⟩ := known_make
  have HM := Lib.hid (make_any w6 (some ⟨ga, 0, none⟩) (some ⟨gb, 0, none⟩) ka kb 2 2 HRa.out HRb.out (by decide) (by decide))
  rw [k1, k2] at HM
  refine HM.out.mono ?_
  rintro e w7 ⟨A7, c7, rfl, h7⟩
  have HRa7 := Lib.hid (HRa.out.below h7.2.2)
  have HRb7 := Lib.hid (HRb.out.below h7.2.2)
  have HA := Lib.hid (apply_any w7 A7 (some ⟨ga, 0, none⟩) ka [((1 : Int), fillS 3)] c7 2 HRa7.out (by simp) (by decide) h7.1.reads (by decide))
  rw [k5, k6] at HA
  have Hb7 := Lib.hid (Hb5.out.trans (h7.2.2.mono (B' := W.heap.size) Hb5.out.size))
  have H7 := Lib.hid h7.1
  clear h7 HM HRa HRb Hb5
  rw [show ([((1 : Int), fillS 3)] : List (Int × ByteArray)).length = 1 from rfl, show ((0 : Nat) : Int) = 0 from rfl]
  go_wp2_with fail
  refine HA.out.mono ?_
  rintro e w8 ⟨A8, c8, rfl, h8⟩
  have HRa8 := Lib.hid (HRa7.out.below h8.2.2)
  have HRb8 := Lib.hid (HRb7.out.below h8.2.2)
  have H78 := Lib.hid (H7.out.below h8.2.2)
  have Hb8 := Lib.hid (Hb7.out.trans (h8.2.2.mono (B' := W.heap.size) Hb7.out.size))
  have H8 := Lib.hid h8.1
  have HM := Lib.hid (make_any w8 (some ⟨ga, 0, none⟩) none ka [] 2 0 HRa8.out (Reads.nil _ _ _) (by decide) (by decide))
  rw [k3, k4] at HM
  clear h8 HA HRa7 HRb7 H7 Hb7
  rw [show kb.length = 2 from rfl]
  go_wp2_with fail
  refine HM.out.mono ?_
  rintro e w9 ⟨A9, c9, rfl, h9⟩
  have HRb9 := Lib.hid (HRb8.out.below h9.2.2)
  have H79 := Lib.hid (H78.out.below h9.2.2)
  have H89 := Lib.hid (H8.out.below h9.2.2)
  have Hb9 := Lib.hid (Hb8.out.trans (h9.2.2.mono (B' := W.heap.size) Hb8.out.size))
  have HT := Lib.hid (texts_any A8 (some ⟨gb, 0, none⟩) kb kb c8 2 w9 H89.out.reads HRb9.out (by decide))
  rw [decide_eq_true rfl] at HT
  obtain ⟨ad, e7, d0, _⟩ := put_cells (k := 0) H79.out.reads (by decide)
  have d0 : w9.cell? ad = some (.int .i64 1) := d0
  clear h9 HM HRa8 HRb8 H78 Hb8 H8
  subst e7
  rw [show ((8 : Nat) : Int) = 8 from rfl, show ([] : List (Int × ByteArray)).length = 0 from rfl]
  go_wp2_with fail
  refine HT.out.mono ?_
  rintro e w10 ⟨rfl, hb10⟩
  have HR := Lib.hid (delRight_any w10 (some ad) [((1 : Int), fillS 3)] c7 (H79.out.reads.below hb10) (by decide))
  rw [k7] at HR
  have Hb10 := Lib.hid (Hb9.out.trans (hb10.mono (B' := W.heap.size) Hb9.out.size))
  clear hb10 HT d0
  go_wp2_with fail
  refine HR.out.mono ?_
  rintro e w11 ⟨rfl, hb11⟩
  have Hb11 := Lib.hid (Hb10.out.trans (hb11.mono (B' := W.heap.size) Hb10.out.size))
  clear hb11 HR
  go_wp2_with fail
  go_ret
  exact ⟨rfl, Hb11.out⟩
end Go.Proofs.Ytjlecfckcciagaa
