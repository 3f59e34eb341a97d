/- The list of a set, as the code has it. -/
import Derived.Test.YtiolfnnkkflaiaaDoorSetList
open Go.RowKit
namespace Go.Proofs.YtiolfnnkkflaiaaDoor

theorem tab_below {g : Nat} {tab : List Nat} {w w' : World} {B : Nat} (h : TabAt g tab w) (hb : Below B w w') (hg : g < B) : TabAt g tab w' :=
  fun j hj => (hb.cell (p := ⟨g, j, none⟩) hg).trans (h j hj)
theorem tab_lt {g : Nat} {w : World} (h : TabAt g Lib.deBruijn64tab w) : g < w.heap.size := World.block_lt_of_cell? _ _ (h 0 (by decide))
theorem lo_len (x : Nat) : (lo x).length ≤ 64 := by
  have := List.length_filter_le x.testBit (List.range 64)
  simpa [lo] using this
theorem key_pred (x : Nat) (hx : x < 18446744073709551616) (h0 : x ≠ 0) : bits BinOp.and IntKind.u64 (x : Int) (IntKind.u64.wrap ((x : Int) - 1)) = ((x &&& (x - 1) : Nat) : Int) := by
  have e : IntKind.u64.wrap ((x : Int) - 1) = ((x - 1 : Nat) : Int) := by rw [IntKind.wrap_u64]; omega
  rw [e, bits_and_u64_nat _ _ hx (by omega)]

/-- One word's upTo, from any list on: the numbers are base, base + 1 .. -/
def shl_ (j : Nat) (l : List Nat) : List Nat := l.map (64 * j + ·)

def upTo (a b j : Nat) : List Nat := if j = 0 then [] else if j = 1 then shl_ 0 (lo a) else shl_ 0 (lo a) ++ shl_ 1 (lo b)
theorem upTo_two (a b : Nat) : upTo a b 2 = lst a b := by simp [upTo, lst_eq, shl_]
theorem upTo_len (a b j : Nat) : (upTo a b j).length ≤ 128 := by
  have l2 := lo_len a
  have l3 := lo_len b
  unfold upTo shl_
  split <;> (try split) <;> simp <;> omega

set_option maxHeartbeats 1000000 in
set_option maxRecDepth 100000 in
theorem bitsList_any (a b : Nat) (ha : a < 18446744073709551616) (hb : b < 18446744073709551616) (w : World) (hT : TabAt 0 Lib.deBruijn64tab w) :
    Calls Tryd.prog 18 #[.agg #[.int .u64 a, .int .u64 b]] w fun e w' => ∃ A c, e = .returned (.slice A (lst a b).length c) ∧ OwnV w' w.heap.size 3 A c (nv (lst a b)) ∧ Below w.heap.size w w' := by
  have Ha := Lib.hid ha
  have Hb := Lib.hid hb
  have HT := Lib.hid hT
  clear ha hb hT
  go_enter Tryd.func18, Tryd.ntmps18
  go_wp2
  have hb1 := (Below.refl w.heap.size w).alloc (Nat.le_refl _) (.cells #[.int .u64 a, .int .u64 b] 26)
  have hs1 : (w.alloc (.cells #[.int .u64 a, .int .u64 b] 26)).heap.size = w.heap.size + 1 := size_alloc _ _
  generalize w.alloc (.cells #[.int .u64 a, .int .u64 b] 26) = w1 at hb1 hs1 ⊢
  have HT1 := Lib.hid (tab_below HT.out hb1 (tab_lt HT.out))
  have h01 := tab_lt HT1.out
  have Hb1 := Lib.hid hb1
  have Hs1 := Lib.hid hs1
  clear hb1 hs1 HT
  have i0 : ∀ W : World, (Instr.index 26 (.agg #[.int .u64 a, .int .u64 b]) (.int .i64 0)).run Tryd.prog W = .ok (.int .u64 a) W := fun W => by kernel_rfl
  have i1 : ∀ W : World, (Instr.index 26 (.agg #[.int .u64 a, .int .u64 b]) (.int .i64 1)).run Tryd.prog W = .ok (.int .u64 b) W := fun W => by kernel_rfl
  go_loopw [3, 7] (fun l i wr => ∃ (j : Nat) (A : Option Addr) (c n : Nat) (L : List Nat), j ≤ 2 ∧ l = .slice A n c ∧ i = .int .i64 j ∧ Hid (L = upTo a b j) ∧ Hid (n = L.length) ∧ Hid (OwnV wr w1.heap.size 3 A c (nv L)) ∧ Hid (Below w1.heap.size w1 wr)) (fun _ i _ => 2 - (intOf i).toNat)
  case atStart => exact ⟨0, none, 0, 0, [], by omega, rfl, rfl, rfl, rfl, OwnV.nil _ _ _, Below.refl _ _⟩
  case round =>
    obtain ⟨j, A, c, n, L, hj, rfl, rfl, HL, Hn, Ho, Hbel⟩ := hrel
    rcases (by omega : j = 0 ∨ j = 1 ∨ j = 2) with rfl | rfl | rfl
    · rw [show ((0 : Nat) : Int) = 0 from rfl]
      have H0 : Hid (L ++ shl_ 0 (lo a) = upTo a b 1) := Lib.hid (by rw [HL.out]; rfl)
      go_wp2
      go_loopw [3, 5] (fun l v wr => ∃ (x : Nat) (A : Option Addr) (c n : Nat) (L : List Nat), l = .slice A n c ∧ v = .int .u64 x ∧ Hid (x < 18446744073709551616) ∧ Hid (L ++ shl_ 0 (lo x) = upTo a b 1) ∧ Hid (n = L.length) ∧ Hid (OwnV wr w1.heap.size 3 A c (nv L)) ∧ Hid (Below w1.heap.size w1 wr)) (fun _ v _ => (intOf v).toNat)
      case atStart => exact ⟨a, A, c, n, L, rfl, rfl, Ha, H0, Hn, Ho, Hbel⟩
      case round =>
        clear Ho Hn HL H0 Hbel
        obtain ⟨x, A, c, n, L, rfl, rfl, Hxl, HL, Hn, Ho, Hbel⟩ := hrel
        have hcap : n ≤ 128 := by
          have e := congrArg List.length HL.out
          have := upTo_len a b 1
          rw [List.length_append] at e
          have := Hn.out
          omega
        by_cases hx0 : x = 0
        · subst hx0
          rw [lo_zero, show shl_ 0 [] = [] from rfl, List.append_nil] at HL
          go_wp2
          case roundEnd =>
            exact ⟨⟨1, A, c, n, L, by omega, rfl, rfl, HL, Hn, Ho, Hbel⟩, by simp [intOf]⟩
        · have hb0 : ((x : Int) == 0) = false := by simp; omega
          have hk := (low_bits x Hxl.out hx0).1
          have hstep := Lib.hid (lo_step x Hxl.out hx0)
          have hdec := and_pred_lt x hx0
          have hkey := Lib.hid (key_pred x Hxl.out hx0)
          have Htab : Hid (TabAt 0 Lib.deBruijn64tab wr) := Lib.hid (tab_below HT1.out Hbel.out h01)
          have hx1 : 1 ≤ x := by omega
          go_wp2_with fail
          refine (tz_any x Hxl.out hx0 wr Htab.out).mono ?_
          rintro e w2 ⟨rfl, rfl⟩
          generalize Lib.ctz 64 x = k at hk hstep ⊢
          have hle : (wr.alloc (.cells #[.int .i64 (k : Int)] 3)).heap.size = wr.heap.size + 1 := size_alloc _ _
          go_wp2_with (at_builtin; refine wpList_append_row cell_int w1 w1.heap.size rfl (.tmp 17) (.tmp 23) rfl A n c _ (by rw [nv_length, Hn.out]) rfl (Ho.out.alloc _) (some ⟨wr.heap.size, 0, none⟩) 1 1 [.int .i64 (k : Int)] rfl (Reads.box _ _ _) (by simp; rfl) (by omega) (Hbel.out.alloc Hbel.out.size _) (by rw [hle]; have := Hbel.out.size; omega) ?_)
          intro A3 c3 w3 ho3 hb3 hB3
          have Ho3 := Lib.hid ho3
          have Hbel3 := Lib.hid hb3
          clear ho3 hb3 hle
          go_wp2_with fail
          rw [hkey.out]
          refine ⟨⟨x &&& (x - 1), A3, c3, n + 1, L ++ [64 * 0 + k], rfl, rfl, Lib.hid (by have := Hxl.out; omega), Lib.hid ?_, Lib.hid (by rw [Hn.out]; simp), Lib.hid ?_, Hbel3⟩, by simp only [intOf]; omega⟩
          · rw [← HL.out, hstep.out]; simp [shl_]
          · rw [nv_append]; simpa [nv] using Ho3.out
    · rw [show ((1 : Nat) : Int) = 1 from rfl]
      have H0 : Hid (L ++ shl_ 1 (lo b) = upTo a b 2) := Lib.hid (by rw [HL.out]; rfl)
      go_wp2
      go_loopw [3, 5] (fun l v wr => ∃ (x : Nat) (A : Option Addr) (c n : Nat) (L : List Nat), l = .slice A n c ∧ v = .int .u64 x ∧ Hid (x < 18446744073709551616) ∧ Hid (L ++ shl_ 1 (lo x) = upTo a b 2) ∧ Hid (n = L.length) ∧ Hid (OwnV wr w1.heap.size 3 A c (nv L)) ∧ Hid (Below w1.heap.size w1 wr)) (fun _ v _ => (intOf v).toNat)
      case atStart => exact ⟨b, A, c, n, L, rfl, rfl, Hb, H0, Hn, Ho, Hbel⟩
      case round =>
        clear Ho Hn HL H0 Hbel
        obtain ⟨x, A, c, n, L, rfl, rfl, Hxl, HL, Hn, Ho, Hbel⟩ := hrel
        have hcap : n ≤ 128 := by
          have e := congrArg List.length HL.out
          have := upTo_len a b 2
          rw [List.length_append] at e
          have := Hn.out
          omega
        by_cases hx0 : x = 0
        · subst hx0
          rw [lo_zero, show shl_ 1 [] = [] from rfl, List.append_nil] at HL
          go_wp2
          case roundEnd =>
            exact ⟨⟨2, A, c, n, L, by omega, rfl, rfl, HL, Hn, Ho, Hbel⟩, by simp [intOf]⟩
        · have hb0 : ((x : Int) == 0) = false := by simp; omega
          have hk := (low_bits x Hxl.out hx0).1
          have hstep := Lib.hid (lo_step x Hxl.out hx0)
          have hdec := and_pred_lt x hx0
          have hkey := Lib.hid (key_pred x Hxl.out hx0)
          have Htab : Hid (TabAt 0 Lib.deBruijn64tab wr) := Lib.hid (tab_below HT1.out Hbel.out h01)
          have hx1 : 1 ≤ x := by omega
          go_wp2_with fail
          refine (tz_any x Hxl.out hx0 wr Htab.out).mono ?_
          rintro e w2 ⟨rfl, rfl⟩
          generalize Lib.ctz 64 x = k at hk hstep ⊢
          have hle : (wr.alloc (.cells #[.int .i64 (64 + (k : Int))] 3)).heap.size = wr.heap.size + 1 := size_alloc _ _
          go_wp2_with (at_builtin; refine wpList_append_row cell_int w1 w1.heap.size rfl (.tmp 17) (.tmp 23) rfl A n c _ (by rw [nv_length, Hn.out]) rfl (Ho.out.alloc _) (some ⟨wr.heap.size, 0, none⟩) 1 1 [.int .i64 (64 + (k : Int))] rfl (Reads.box _ _ _) (by simp; rfl) (by omega) (Hbel.out.alloc Hbel.out.size _) (by rw [hle]; have := Hbel.out.size; omega) ?_)
          intro A3 c3 w3 ho3 hb3 hB3
          have Ho3 := Lib.hid ho3
          have Hbel3 := Lib.hid hb3
          clear ho3 hb3 hle
          go_wp2_with fail
          rw [hkey.out]
          refine ⟨⟨x &&& (x - 1), A3, c3, n + 1, L ++ [64 * 1 + k], rfl, rfl, Lib.hid (by have := Hxl.out; omega), Lib.hid ?_, Lib.hid (by rw [Hn.out]; simp), Lib.hid ?_, Hbel3⟩, by simp only [intOf]; omega⟩
          · rw [← HL.out, hstep.out]; simp [shl_]
          · rw [nv_append]; simpa [nv] using Ho3.out
    · go_wp2
      go_ret
      have e : L = lst a b := HL.out.trans (upTo_two a b)
      subst e
      exact ⟨A, c, by rw [← Hn.out]; rfl, Ho.out.mono (by rw [Hs1.out]; omega), Hb1.out.trans (Hbel.out.mono (by rw [Hs1.out]; omega))⟩
end Go.Proofs.YtiolfnnkkflaiaaDoor
