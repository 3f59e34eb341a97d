/- Lists of numbers compared; the fixed calls of the laws of sets. -/
import Derived.Test.YtiolfnnkkflaiaaDoorBits4
import Derived.Deep.QuietTactic
import Derived.BigQuiet
open Go.RowKit
namespace Go.Proofs.YtiolfnnkkflaiaaDoor

theorem zv_get (l : List Int) (k : Nat) (h : k < l.length) : (zv l)[k]? = some (.int .i64 l[k]) := by simp [zv, h]

set_option maxRecDepth 100000 in
theorem ints_any (A B : Option Addr) (l m : List Int) (c d : Nat) (w : World) (hr : Reads w 1 A l.length (zv l)) (hs : Reads w 1 B m.length (zv m)) (hl : l.length ≤ 100000) (hm : m.length ≤ 100000) :
    Calls Tryd.prog 17 #[.slice A l.length c, .slice B m.length d] w fun e w' => e = .returned (.bool (decide (l = m))) ∧ Below w.heap.size w w' := by
  have Hr := Lib.hid hr
  have Hs := Lib.hid hs
  clear hr hs
  by_cases hlm : l.length = m.length
  · have Hlm := Lib.hid hlm
    have hb : ((l.length : Int) != (m.length : Int)) = false := by simp [hlm]
    generalize hn : m.length = n at *
    have Hn := Lib.hid hn
    subst hlm
    clear hn
    go_enter Tryd.func17, Tryd.ntmps17
    go_wp2_with fail
    clear hb
    go_loopw [5] (fun i wr => ∃ k : Nat, k ≤ l.length ∧ i = .int .i64 k ∧ Hid (∀ j, j < k → l[j]? = m[j]?) ∧ Hid (Below w.heap.size w wr)) (fun i _ => l.length - (intOf i).toNat)
    case atStart => exact ⟨0, by omega, rfl, (fun j hj => by omega), Below.refl _ _⟩
    case round =>
      obtain ⟨k, hk, rfl, Hp, Hb⟩ := hrel
      by_cases hlt : k < l.length
      · have hlm : k < m.length := by rw [Hn.out]; exact hlt
        obtain ⟨ad, rfl, hc⟩ := (Hr.out.below Hb.out).at_ (k := k) hlt (zv_get l k hlt)
        obtain ⟨bd, rfl, hd⟩ := (Hs.out.below Hb.out).at_ (k := k) (by exact hlt) (zv_get m k hlm)
        have e1 : l[k]? = some l[k] := List.getElem?_eq_getElem hlt
        have e2 : m[k]? = some m[k] := List.getElem?_eq_getElem hlm
        generalize l[k] = x at hc e1
        generalize m[k] = y at hd e2
        have E1 := Lib.hid e1
        have E2 := Lib.hid e2
        clear e1 e2 hlm
        by_cases hxy : x = y
        · subst hxy
          go_wp2_with fail
          go_quiet (fail)
          clear hc hd
          go_wp2_with fail
          case roundEnd =>
            refine ⟨⟨k + 1, by omega, by push_cast; rfl, Lib.hid fun j hj => ?_, Lib.hid (Hb.out.trans ⟨rfl, rfl, rfl, Nat.le_refl _, fun _ _ => rfl⟩)⟩, by simp only [intOf]; omega⟩
            by_cases h : j = k
            · subst h; rw [E1.out, E2.out]
            · exact Hp.out j (by omega)
        · have hb : (x != y) = true := by simpa using hxy
          have Hd : Hid (decide (l = m) = false) := Lib.hid (decide_eq_false fun h => hxy (by have h1 := E1.out; rw [h, E2.out] at h1; exact (Option.some.inj h1).symm))
          clear hxy
          go_wp2_with fail
          go_quiet (fail)
          clear hc hd
          go_wp2_with fail
          go_ret
          exact ⟨by rw [Hd.out]; rfl, Hb.out.trans ⟨rfl, rfl, rfl, Nat.le_refl _, fun _ _ => rfl⟩⟩
      · obtain rfl : k = l.length := by omega
        have Hd : Hid (decide (l = m) = true) := Lib.hid (decide_eq_true (List.ext_getElem? fun j => by
          by_cases h : j < l.length
          · exact Hp.out j h
          · rw [List.getElem?_eq_none (by omega), List.getElem?_eq_none (by rw [Hn.out]; omega)]))
        go_wp2_with fail
        go_ret
        exact ⟨by rw [Hd.out]; rfl, Hb.out⟩
  · have hb : ((l.length : Int) != (m.length : Int)) = true := by rw [bne_iff_ne]; omega
    have Hd : Hid (decide (l = m) = false) := Lib.hid (decide_eq_false fun h => hlm (by rw [h]))
    clear hlm
    go_enter Tryd.func17, Tryd.ntmps17
    go_wp2_with fail
    go_ret
    exact ⟨by rw [Hd.out]; rfl, Below.refl _ _⟩

theorem nv_zv (l : List Nat) : nv l = zv (l.map Int.ofNat) := by simp [nv, zv]

set_option maxHeartbeats 1000000 in
set_option maxRecDepth 100000 in
theorem known10_any (w : World) (hT : TabAt 0 Lib.deBruijn64tab w) :
    Calls Tryd.prog 6 #[] w fun e w' => e = .returned (.bool true) ∧ Below w.heap.size w w' := by
  have HT := Lib.hid hT
  clear hT
  obtain ⟨hb1, hg1, hs1⟩ := alloc1 w #[.int .i64 0, .int .i64 64] 3
  have hr1 : Reads (w.alloc (.cells #[.int .i64 0, .int .i64 64] 3)) 1 (some ⟨w.heap.size, 0, none⟩) 2 (zv [0, 64]) := Reads.of_block (n := 2) hg1 rfl
  go_enter Tryd.func6, Tryd.ntmps6
  go_wp2_with fail
  generalize w.alloc (.cells #[.int .i64 0, .int .i64 64] 3) = w1 at hb1 hr1 ⊢
  have HR1 := Lib.hid hb1
  clear hb1 hg1 hs1
  refine (bitsOf_any (some ⟨w.heap.size, 0, none⟩) [0, 64] 2 w1 hr1 (by decide)).mono ?_
  rintro e w2 ⟨rfl, hb2⟩
  rw [show ofS [0, 64] 0 0 = (1, 1, 0) by decide +kernel]
  have HR2 := Lib.hid (HR1.out.trans (hb2.mono (B' := w.heap.size) HR1.out.size))
  clear hb2 hr1
  obtain ⟨hb3, hg3, hg4, hs3⟩ := alloc2 w2 #[.int .u64 1, .int .u64 1] 26 #[.int .i64 128] 3
  have hr3 : Reads ((w2.alloc (.cells #[.int .u64 1, .int .u64 1] 26)).alloc (.cells #[.int .i64 128] 3)) 1 (some ⟨w2.heap.size + 1, 0, none⟩) 1 (zv [128]) := Reads.of_block (n := 1) hg4 rfl
  go_wp2_with fail
  generalize (w2.alloc (.cells #[.int .u64 1, .int .u64 1] 26)).alloc (.cells #[.int .i64 128] 3) = w3 at hb3 hg3 hs3 hr3 ⊢
  have HR3 := Lib.hid (HR2.out.trans (hb3.mono (B' := w.heap.size) HR2.out.size))
  have hz : w2.heap.size + 1 < w3.heap.size := by omega
  generalize w2.heap.size = g at *
  have Hz := Lib.hid hz
  have G := Lib.hid hg3
  clear hb3 hg3 hs3 hz hg4
  refine (bitsOf_any (some ⟨g + 1, 0, none⟩) [128] 1 w3 hr3 (by decide)).mono ?_
  rintro e w4 ⟨rfl, hb4⟩
  rw [show ofS [128] 0 0 = (0, 0, 3) by decide +kernel]
  have HR4 := Lib.hid (HR3.out.trans (hb4.mono (B' := w.heap.size) HR3.out.size))
  have hz := Hz.out
  have G4 := Lib.hid ((hb4.block g (by omega)).trans G.out)
  have Hz4 := Lib.hid (show g < w4.heap.size from Nat.lt_of_lt_of_le (by omega) hb4.size)
  clear hb4 hr3 hz
  obtain ⟨hb5, hg5, hs5⟩ := alloc1 w4 #[.int .u64 0, .int .u64 0] 26
  obtain ⟨c0, c1, _, _⟩ := cells2 ((heap_alloc_old w4 (.cells #[.int .u64 0, .int .u64 0] 26) Hz4.out).trans G4.out)
  have qe := eql_u2 (P := Tryd.prog) Tryd.underlying26 Tryd.underlying23 (by kernel_rfl) (by kernel_rfl) (by kernel_rfl) 1 1 1 1
  simp only [beq_self_eq_true, Bool.and_self] at qe
  go_wp2_with fail
  clear c0 c1 qe
  have G5 := Lib.hid ((heap_alloc_old w4 (.cells #[.int .u64 0, .int .u64 0] 26) Hz4.out).trans G4.out)
  have Hz5 := Lib.hid (show g < (w4.alloc (.cells #[.int .u64 0, .int .u64 0] 26)).heap.size by rw [size_alloc]; exact Nat.lt_succ_of_lt Hz4.out)
  generalize w4.alloc (.cells #[.int .u64 0, .int .u64 0] 26) = w5 at hb5 G5 Hz5 ⊢
  have HR5 := Lib.hid (HR4.out.trans (hb5.mono (B' := w.heap.size) HR4.out.size))
  clear hb5 hg5 hs5 G4 Hz4
  refine (count_any 1 1 (by omega) (by omega) w5).mono ?_
  rintro e w6 ⟨rfl, hb6⟩
  rw [show (lst 1 1).length = 2 by decide +kernel]
  have HR6 := Lib.hid (HR5.out.trans (hb6.mono (B' := w.heap.size) HR5.out.size))
  obtain ⟨c0, c1, _, _⟩ := cells2 ((hb6.block g Hz5.out).trans G5.out)
  clear hb6
  go_wp2_with fail
  clear c0 c1
  refine (bitsList_any 1 1 (by omega) (by omega) w6 (tab_below HT.out HR6.out (tab_lt HT.out))).mono ?_
  rintro e w7 ⟨A, c, rfl, ho, hb7⟩
  have HR7 := Lib.hid (HR6.out.trans (hb7.mono (B' := w.heap.size) HR6.out.size))
  have hl : lst 1 1 = [0, 64] := by decide +kernel
  rw [hl] at ho ⊢
  obtain ⟨hb8, hg8, hs8⟩ := alloc1 w7 #[.int .i64 0, .int .i64 64] 3
  have hr7 : Reads (w7.alloc (.cells #[.int .i64 0, .int .i64 64] 3)) 1 A 2 (zv [0, 64]) := (ho.reads.below hb8)
  have hr8 : Reads (w7.alloc (.cells #[.int .i64 0, .int .i64 64] 3)) 1 (some ⟨w7.heap.size, 0, none⟩) 2 (zv [0, 64]) := Reads.of_block (n := 2) hg8 rfl
  have Hr7 := Lib.hid hr7
  have Hr8 := Lib.hid hr8
  clear ho hb7 hg8 hs8 hr7 hr8 hl
  go_wp2_with fail
  generalize w7.alloc (.cells #[.int .i64 0, .int .i64 64] 3) = w8 at hb8 Hr7 Hr8 ⊢
  have HR8 := Lib.hid (HR7.out.trans (hb8.mono (B' := w.heap.size) HR7.out.size))
  clear hb8
  refine (ints_any A (some ⟨w7.heap.size, 0, none⟩) [0, 64] [0, 64] c 2 w8 Hr7.out Hr8.out (by decide) (by decide)).mono ?_
  rintro e w9 ⟨rfl, hb9⟩
  have HR9 := Lib.hid (HR8.out.trans (hb9.mono (B' := w.heap.size) HR8.out.size))
  rw [decide_eq_true rfl]
  clear hb9
  go_wp2_with fail
  go_ret
  exact ⟨rfl, HR9.out⟩
end Go.Proofs.YtiolfnnkkflaiaaDoor
