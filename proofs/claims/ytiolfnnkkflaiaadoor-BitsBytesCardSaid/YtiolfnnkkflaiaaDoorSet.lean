/- The reference's sets: Has, told, made, With. -/
import Derived.Test.YtiolfnnkkflaiaaDoorRow
import Derived.Laws.Bits64b
open Go.RowKit
namespace Go.Proofs.YtiolfnnkkflaiaaDoor

def has (a b i : Nat) : Bool := if i < 64 then a.testBit i else b.testBit (i - 64)

theorem bit_and_one (x k : Nat) : ((x / 2 ^ k) &&& 1 == 1) = x.testBit k := by
  rw [Nat.testBit_eq_decide_div_mod_eq, Nat.and_one_is_mod]
  rfl
theorem key_has (x k : Nat) (hx : x < 18446744073709551616) : (bits BinOp.and IntKind.u64 ((x : Int) / 2 ^ k) 1 == 1) = x.testBit k := by
  have h1 : (x : Int) / 2 ^ k = ((x / 2 ^ k : Nat) : Int) := by simp
  have h2 : x / 2 ^ k ≤ x := Nat.div_le_self _ _
  rw [h1, show (1 : Int) = ((1 : Nat) : Int) from rfl, bits_and_u64_nat _ _ (by omega) (by omega), ← bit_and_one]
  cases h : (x / 2 ^ k &&& 1 == 1) <;> simp at h ⊢ <;> omega

set_option maxRecDepth 100000 in
theorem has_any (a b i : Nat) (ha : a < 18446744073709551616) (hb : b < 18446744073709551616) (hi : i < 128) (w : World) :
    Calls Tryd.prog 14 #[.agg #[.int .u64 a, .int .u64 b], .int .i64 i] w fun e w' => e = .returned (.bool (has a b i)) ∧ Below w.heap.size w w' := by
  have Ka := Lib.hid (key_has a i ha)
  have Kb := Lib.hid (key_has b (i - 64) hb)
  clear ha hb
  by_cases h : i < 64
  · have q1 : i / 64 = 0 := by omega
    have q2 : (i : Int) / 64 = 0 := by omega
    have q3 : (i : Int) % 64 = i := by omega
    go_enter Tryd.func14, Tryd.ntmps14
    go_wp2
    go_ret
    exact ⟨by rw [has, if_pos h]; first | rfl | (rw [Ka.out]; rfl), (Below.refl _ _).alloc (Nat.le_refl _) _⟩
  · have q1 : i / 64 = 1 := by omega
    have q2 : (i : Int) / 64 = 1 := by omega
    have q3 : (i : Int) % 64 = ((i - 64 : Nat) : Int) := by omega
    go_enter Tryd.func14, Tryd.ntmps14
    go_wp2
    go_ret
    exact ⟨by rw [has, if_neg h]; first | rfl | (rw [Kb.out]; rfl), (Below.refl _ _).alloc (Nat.le_refl _) _⟩

/-- Bools, as cells. -/
def lv (l : List Bool) : List Value := l.map Value.bool
theorem lv_length (l : List Bool) : (lv l).length = l.length := by simp [lv]
theorem oneCell_lv (l : List Bool) : ∀ u ∈ lv l, u.oneCell' = true := by
  intro u hu
  simp only [lv, List.mem_map] at hu
  obtain ⟨b, _, rfl⟩ := hu
  rfl
theorem cell_bool : Cell1 Tryd.prog 49 4 (.bool false) 1 := ⟨Tryd.underlying49, by kernel_rfl, rfl, by omega⟩

/-- Of which numbers the set tells that they are there. -/
def tell (a b k : Nat) : List Bool := (List.range k).map (has a b)
theorem tell_length (a b k : Nat) : (tell a b k).length = k := by simp [tell]
theorem tell_succ (a b k : Nat) : tell a b (k + 1) = tell a b k ++ [has a b k] := by simp [tell, List.range_succ]

set_option maxRecDepth 100000 in
theorem told_any (a b : Nat) (ha : a < 18446744073709551616) (hb : b < 18446744073709551616) (w : World) :
    Calls Tryd.prog 28 #[.agg #[.int .u64 a, .int .u64 b]] w fun e w' => ∃ A c, e = .returned (.slice A 128 c) ∧ OwnV w' w.heap.size 4 A c (lv (tell a b 128)) ∧ Below w.heap.size w w' := by
  have Ha := Lib.hid ha
  have Hb := Lib.hid hb
  clear ha hb
  go_enter Tryd.func28, Tryd.ntmps28
  go_wp2
  have hc0 : (w.alloc (.cells #[.int .u64 a, .int .u64 b] 30)).cell? ⟨w.heap.size, 0, none⟩ = some (.int .u64 a) := by rw [cell_of_row _ _ _ _ _ _ (heap_alloc_new _ _)]; rfl
  have hc1 : (w.alloc (.cells #[.int .u64 a, .int .u64 b] 30)).cell? ⟨w.heap.size, 1, none⟩ = some (.int .u64 b) := by rw [cell_of_row _ _ _ _ _ _ (heap_alloc_new _ _)]; rfl
  have hb1 := (Below.refl w.heap.size w).alloc (Nat.le_refl _) (.cells #[.int .u64 a, .int .u64 b] 30)
  have hs1 : (w.alloc (.cells #[.int .u64 a, .int .u64 b] 30)).heap.size = w.heap.size + 1 := size_alloc _ _
  generalize w.alloc (.cells #[.int .u64 a, .int .u64 b] 30) = w1 at hc0 hc1 hb1 hs1 ⊢
  have Hb1 := Lib.hid hb1
  have Hs1 := Lib.hid hs1
  clear hb1 hs1
  go_loopw [3, 4] (fun l i wr => ∃ k A c n, k ≤ 128 ∧ k = n ∧ l = .slice A n c ∧ i = .int .i64 k ∧ Hid (OwnV wr w1.heap.size 4 A c (lv (tell a b k))) ∧ Hid (Below w1.heap.size w1 wr)) (fun l i _ => 128 - (intOf i).toNat)
  case atStart => exact ⟨0, none, 0, 0, by omega, rfl, rfl, rfl, OwnV.nil _ _ _, Below.refl _ _⟩
  case round =>
    obtain ⟨k, A, c, n, hk, rfl, rfl, rfl, Ho, Hbel⟩ := hrel
    have hc0' := (Hbel.out.cell (p := ⟨w.heap.size, 0, none⟩) (by show w.heap.size < _; rw [Hs1.out]; omega)).trans hc0
    have hc1' := (Hbel.out.cell (p := ⟨w.heap.size, 1, none⟩) (by show w.heap.size < _; rw [Hs1.out]; omega)).trans hc1
    by_cases hlt : k < 128
    · go_wp2_with fail
      refine (has_any a b k Ha.out Hb.out hlt _).mono ?_
      rintro e w2 ⟨rfl, hb2⟩
      have Hbel2 := Lib.hid (Hbel.out.trans (hb2.mono Hbel.out.size))
      have Ho2 := Lib.hid (Ho.out.below hb2)
      clear hb2
      have hle : (w2.alloc (.cells #[.bool (has a b k)] 4)).heap.size = w2.heap.size + 1 := size_alloc _ _
      go_wp2_with (at_builtin; refine wpList_append_row cell_bool w1 w1.heap.size rfl (.tmp 9) (.tmp 13) rfl A k c _ (by rw [lv_length, tell_length]) rfl (Ho2.out.alloc _) (some ⟨w2.heap.size, 0, none⟩) 1 1 [.bool (has a b k)] rfl (Reads.box _ _ _) (by simp; rfl) (by omega) (Hbel2.out.alloc Hbel2.out.size _) (by rw [hle]; have := Hbel2.out.size; omega) ?_)
      intro A3 c3 w3 ho3 hb3 hB3
      have Ho3 := Lib.hid ho3
      have Hbel3 := Lib.hid hb3
      clear ho3 hb3 hle
      go_wp2_with fail
      case roundEnd =>
        refine ⟨⟨k + 1, A3, c3, _, by omega, rfl, rfl, by push_cast; rfl, ?_, Hbel3⟩, by simp only [intOf]; omega⟩
        rw [tell_succ]
        simpa [lv] using Ho3
    · go_wp2
      go_ret
      obtain rfl : k = 128 := by omega
      exact ⟨A, c, rfl, Ho.out.mono (by rw [Hs1.out]; omega), Hb1.out.trans (Hbel.out.mono (by rw [Hs1.out]; omega))⟩
/-! ### a word of what a function tells -/
def ofBits (f : Nat → Bool) : Nat → Nat
  | 0 => 0
  | k + 1 => if f k then ofBits f k ||| 2 ^ k else ofBits f k
theorem ofBits_testBit (f : Nat → Bool) : ∀ (k j : Nat), (ofBits f k).testBit j = (decide (j < k) && f j)
  | 0, j => by simp [ofBits]
  | k + 1, j => by
    unfold ofBits
    have ih := ofBits_testBit f k j
    split
    · rename_i h
      rw [Nat.testBit_or, ih, Nat.testBit_two_pow]
      by_cases h1 : k = j
      · subst h1; simp [h]
      · have e : (j < k + 1) = (j < k) := by simp; omega
        simp [h1, e]
    · rename_i h
      rw [ih]
      by_cases h1 : k = j
      · subst h1; simp [h]
      · have e : (j < k + 1) = (j < k) := by simp; omega
        simp [e]
theorem ofBits_lt (f : Nat → Bool) (k : Nat) : ofBits f k < 2 ^ k := by
  apply Nat.lt_pow_two_of_testBit
  intro i hi
  rw [ofBits_testBit]
  simp; omega
theorem ofBits_lt64 (f : Nat → Bool) (k : Nat) (hk : k ≤ 64) : ofBits f k < 18446744073709551616 :=
  Nat.lt_of_lt_of_le (ofBits_lt f k) (Nat.pow_le_pow_right (by omega) hk)
theorem ofBits_self (x : Nat) (hx : x < 18446744073709551616) : ofBits x.testBit 64 = x := by
  apply Nat.eq_of_testBit_eq
  intro i
  rw [ofBits_testBit]
  by_cases h : i < 64
  · simp [h]
  · have : x.testBit i = false := Nat.testBit_lt_two_pow (Nat.lt_of_lt_of_le hx (Nat.pow_le_pow_right (n := 2) (i := 64) (by omega) (by omega)))
    simp [this]
theorem ofBits_congr {f g : Nat → Bool} {k : Nat} (h : ∀ j, j < k → f j = g j) : ofBits f k = ofBits g k := by
  apply Nat.eq_of_testBit_eq
  intro i
  rw [ofBits_testBit, ofBits_testBit]
  by_cases hi : i < k
  · simp [hi, h i hi]
  · simp [hi]

/-- 'w | 1<<k' on words. -/
theorem key_or (x k : Nat) (hx : x < 18446744073709551616) (hk : k < 64) : bits BinOp.or IntKind.u64 (x : Int) (IntKind.u64.wrap (2 ^ k)) = ((x ||| 2 ^ k : Nat) : Int) := by
  have h1 : (2 : Nat) ^ k < 18446744073709551616 := by
    have : (2 : Nat) ^ k < 2 ^ 64 := Nat.pow_lt_pow_right (by omega) hk
    simpa using this
  have h2 : IntKind.u64.wrap ((2 : Int) ^ k) = ((2 ^ k : Nat) : Int) := by
    rw [IntKind.wrap_u64]
    have : ((2 : Int) ^ k) = ((2 ^ k : Nat) : Int) := by simp
    rw [this]; exact Int.emod_eq_of_lt (Int.natCast_nonneg _) (by omega)
  rw [h2, bits_or_u64_nat _ _ hx h1]

/-- What of which a list tells that it is there, at k. -/
def at_ (l : List Bool) (k : Nat) : Bool := l.getD k false

set_option maxRecDepth 100000 in
theorem made_any (A : Option Addr) (l : List Bool) (c : Nat) (hl : l.length = 128) (w : World) (hr : Reads w 1 A 128 (lv l)) :
    Calls Tryd.prog 29 #[.slice A 128 c] w fun e w' => e = .returned (.agg #[.int .u64 (ofBits (at_ l) 64 : Nat), .int .u64 (ofBits (fun j => at_ l (64 + j)) 64 : Nat)]) ∧ Below w.heap.size w w' := by
  obtain ⟨ad, rfl, hcell⟩ := hr.2 (by omega)
  have Hcell := Lib.hid hcell
  clear hr hcell
  go_enter Tryd.func29, Tryd.ntmps29
  go_wp2
  have hg2 : ((w.alloc (.cells #[.int .u64 0, .int .u64 0] 30)).alloc (.cells #[.int .u64 0, .int .u64 0] 30)).heap[w.heap.size]? = some (.cells #[.int .u64 0, .int .u64 0] 30 (0, 0)) := by
    rw [heap_alloc_old _ _ (by rw [size_alloc]; omega)]; exact heap_alloc_new _ _
  have hg3 : ((w.alloc (.cells #[.int .u64 0, .int .u64 0] 30)).alloc (.cells #[.int .u64 0, .int .u64 0] 30)).heap[w.heap.size + 1]? = some (.cells #[.int .u64 0, .int .u64 0] 30 (0, 0)) := by
    have := heap_alloc_new (w.alloc (.cells #[.int .u64 0, .int .u64 0] 30)) (.cells #[.int .u64 0, .int .u64 0] 30)
    rwa [size_alloc] at this
  have hb := ((Below.refl w.heap.size w).alloc (Nat.le_refl _) (.cells #[.int .u64 0, .int .u64 0] 30)).alloc (by rw [size_alloc]; omega) (.cells #[.int .u64 0, .int .u64 0] 30)
  generalize (w.alloc (.cells #[.int .u64 0, .int .u64 0] 30)).alloc (.cells #[.int .u64 0, .int .u64 0] 30) = w1 at hg2 hg3 hb ⊢
  have Hg2 := Lib.hid hg2
  have Hg3 := Lib.hid hg3
  have Hb := Lib.hid hb
  clear hg2 hg3 hb
  go_loopw [4] (fun i wr => ∃ (k x y : Nat), k ≤ 128 ∧ i = .int .i64 k ∧ Hid (x = ofBits (at_ l) (min k 64)) ∧ Hid (y = ofBits (fun j => at_ l (64 + j)) (k - 64)) ∧ Hid (wr.heap[w.heap.size]? = some (.cells #[.int .u64 0, .int .u64 0] 30 (0, 0))) ∧ Hid (wr.heap[w.heap.size + 1]? = some (.cells #[.int .u64 x, .int .u64 y] 30 (0, 0))) ∧ Hid (Below w.heap.size w wr)) (fun i _ => 128 - (intOf i).toNat)
  case atStart => exact ⟨0, 0, 0, by omega, rfl, rfl, rfl, Hg2, Hg3, Hb⟩
  case round =>
    obtain ⟨k, x, y, hk, rfl, Hx, Hy, H2, H3, Hbel⟩ := hrel
    clear Hg2 Hg3 Hb
    have hx0 : wr.cell? ⟨w.heap.size + 1, 0, none⟩ = some (.int .u64 x) := by rw [cell_of_row _ _ _ _ _ _ H3.out]; rfl
    have hx1 : wr.cell? ⟨w.heap.size + 1, 1, none⟩ = some (.int .u64 y) := by rw [cell_of_row _ _ _ _ _ _ H3.out]; rfl
    have hf0 : wr.frozen? ⟨w.heap.size + 1, 0, none⟩ = false := frozen_of_row _ _ _ _ _ H3.out
    have hf1 : wr.frozen? ⟨w.heap.size + 1, 1, none⟩ = false := frozen_of_row _ _ _ _ _ H3.out
    by_cases hlt : k < 128
    · have hck : wr.cell? (ad.add k) = some (.bool (at_ l k)) := by
        have h0 := Hcell.out k (.bool (at_ l k)) (by simp [lv, at_, List.getD, hl, hlt])
        exact (Hbel.out.cell (World.block_lt_of_cell? _ _ h0)).trans h0
      cases hb : at_ l k with
      | false =>
        rw [hb] at hck
        go_wp2
        case roundEnd =>
          refine ⟨⟨k + 1, x, y, by omega, by push_cast; rfl, ?_, ?_, H2, H3, Hbel⟩, by simp only [intOf]; omega⟩
          · by_cases h64 : k < 64
            · rw [show min (k + 1) 64 = k + 1 by omega, ofBits, if_neg (by simp [hb]), show k = min k 64 by omega]; exact Hx
            · rw [show min (k + 1) 64 = min k 64 by omega]; exact Hx
          · by_cases h64 : k < 64
            · rw [show k + 1 - 64 = k - 64 by omega]; exact Hy
            · rw [show k + 1 - 64 = k - 64 + 1 by omega, ofBits, if_neg (by rw [show 64 + (k - 64) = k by omega]; simp [hb])]; exact Hy
      | true =>
        rw [hb] at hck
        by_cases h64 : k < 64
        · have q1 : k / 64 = 0 := by omega
          have q2 : (k : Int) / 64 = 0 := by omega
          have q3 : (k : Int) % 64 = k := by omega
          go_wp2
          case roundEnd =>
            have hxl : x < 18446744073709551616 := by rw [Hx.out]; exact ofBits_lt64 _ _ (by omega)
            rw [key_or x k hxl h64]
            clear hxl
            refine ⟨⟨k + 1, x ||| 2 ^ k, y, by omega, by push_cast; rfl, ?_, ?_, ?_, ?_, ?_⟩, by simp only [intOf]; omega⟩
            · rw [Hx.out, show min (k + 1) 64 = k + 1 by omega, ofBits, if_pos hb, show min k 64 = k by omega]; rfl
            · rw [show k + 1 - 64 = k - 64 by omega]; exact Hy
            · exact Lib.hid ((heap_setCell_other _ _ _ _ (by simp)).trans H2.out)
            · exact Lib.hid (heap_setCell_same _ _ 0 _ _ (.int .u64 ((x ||| 2 ^ k : Nat) : Int)) H3.out)
            · exact Lib.hid (Hbel.out.setCell (p := ⟨w.heap.size + 1, 0, none⟩) (by show w.heap.size ≤ w.heap.size + 1; omega) _)
        · have q1 : k / 64 = 1 := by omega
          have q2 : (k : Int) / 64 = 1 := by omega
          have q3 : (k : Int) % 64 = ((k - 64 : Nat) : Int) := by omega
          go_wp2
          case roundEnd =>
            have hyl : y < 18446744073709551616 := by rw [Hy.out]; exact ofBits_lt64 _ _ (by omega)
            rw [key_or y (k - 64) hyl (by omega)]
            clear hyl
            refine ⟨⟨k + 1, x, y ||| 2 ^ (k - 64), by omega, by push_cast; rfl, ?_, ?_, ?_, ?_, ?_⟩, by simp only [intOf]; omega⟩
            · rw [show min (k + 1) 64 = min k 64 by omega]; exact Hx
            · rw [Hy.out, show k + 1 - 64 = k - 64 + 1 by omega, ofBits, if_pos (by rw [show 64 + (k - 64) = k by omega]; exact hb)]; rfl
            · exact Lib.hid ((heap_setCell_other _ _ _ _ (by simp)).trans H2.out)
            · exact Lib.hid (heap_setCell_same _ _ 1 _ _ (.int .u64 ((y ||| 2 ^ (k - 64) : Nat) : Int)) H3.out)
            · exact Lib.hid (Hbel.out.setCell (p := ⟨w.heap.size + 1, 1, none⟩) (by show w.heap.size ≤ w.heap.size + 1; omega) _)
    · have hc2 : wr.cell? ⟨w.heap.size, 0, none⟩ = some (.int .u64 0) := by rw [cell_of_row _ _ _ _ _ _ H2.out]; rfl
      have hc3 : wr.cell? ⟨w.heap.size, 1, none⟩ = some (.int .u64 0) := by rw [cell_of_row _ _ _ _ _ _ H2.out]; rfl
      have hf2 : wr.frozen? ⟨w.heap.size, 0, none⟩ = false := frozen_of_row _ _ _ _ _ H2.out
      have hf3 : wr.frozen? ⟨w.heap.size, 1, none⟩ = false := frozen_of_row _ _ _ _ _ H2.out
      have e1 := heap_setCell_same wr w.heap.size 0 _ _ (.int .u64 x) H2.out
      have e2 := heap_setCell_same _ w.heap.size 1 _ _ (.int .u64 y) e1
      go_wp2
      obtain rfl : k = 128 := by omega
      refine bodyPost_ret (results_cell_row rfl _ _ w.heap.size _ _ _ _ rfl e2 Tryd.underlying30 rfl (by kernel_rfl)) rfl ⟨?_, (Hbel.out.setCell (p := ⟨w.heap.size, 0, none⟩) (Nat.le_refl _) _).setCell (p := ⟨w.heap.size, 1, none⟩) (Nat.le_refl _) _⟩
      rw [Hx.out, Hy.out]; rfl

end Go.Proofs.YtiolfnnkkflaiaaDoor
