/- The contracts of crc's functions, and of their references: a sum is a fold over bytes, each eight steps. -/
import Derived.Test.YtcahflddafdhfaaBase
open Go.RowKit
namespace Go.Proofs.Ytcahflddafdhfaa

/-! ### what is reckoned -/
def crcStep (n : Nat) : Nat := if n % 2 = 1 then (n / 2) ^^^ 2197175160 else n / 2
def crcSteps : Nat → Nat → Nat
  | 0, n => n
  | k + 1, n => crcSteps k (crcStep n)
theorem crcStep_lt {n : Nat} (h : n < 4294967296) : crcStep n < 4294967296 := by
  unfold crcStep
  split
  · exact Nat.xor_lt_two_pow (n := 32) (by omega) (by omega)
  · omega
theorem crcSteps_lt (k : Nat) : ∀ {n : Nat}, n < 4294967296 → crcSteps k n < 4294967296 := by
  induction k with
  | zero => intro n h; exact h
  | succ k ih => intro n h; exact ih (crcStep_lt h)
theorem crcSteps_succ (k n : Nat) : crcSteps (k + 1) n = crcSteps k (crcStep n) := rfl
theorem crcSteps_zero (n : Nat) : crcSteps 0 n = n := rfl
theorem crcStep_odd {n : Nat} (h : n % 2 = 1) : crcStep n = (n / 2) ^^^ 2197175160 := by unfold crcStep; rw [if_pos h]
theorem crcStep_even {n : Nat} (h : ¬ n % 2 = 1) : crcStep n = n / 2 := by unfold crcStep; rw [if_neg h]
attribute [irreducible] crcStep crcSteps

def unot32 (n : Nat) : Nat := 4294967295 - n
theorem unot32_lt (n : Nat) : unot32 n < 4294967296 := by unfold unot32; omega
theorem unot32_inj {a b : Nat} (ha : a < 4294967296) (hb : b < 4294967296) (h : unot32 a = unot32 b) : a = b := by unfold unot32 at h; omega
theorem unot32_unot32 {a : Nat} (ha : a < 4294967296) : unot32 (unot32 a) = a := by unfold unot32; omega
theorem not_u32 (n : Nat) (h : n < 4294967296) : bits BinOp.xor IntKind.u32 IntKind.u32.max (n : Int) = (unot32 n : Nat) := by
  have e : IntKind.u32.max = ((4294967295 : Nat) : Int) := by decide
  rw [e, u32_xor_nat _ _ (by omega) h]
  congr 1
  have h1 := congrArg BitVec.toNat (BitVec.allOnes_xor (x := BitVec.ofNat 32 n))
  rw [BitVec.toNat_xor, BitVec.toNat_not, BitVec.toNat_allOnes, BitVec.toNat_ofNat, Nat.mod_eq_of_lt (by omega)] at h1
  unfold unot32
  exact h1
attribute [irreducible] unot32

def crcByte (m : Nat) (c : UInt8) : Nat := (m / 256) ^^^ crcSteps 8 ((m % 256) ^^^ c.toNat)
def crcAdd (sum : Nat) (l : List UInt8) : Nat := unot32 (l.foldl crcByte (unot32 sum))
theorem crcByte_lt (m : Nat) (c : UInt8) (h : m < 4294967296) : crcByte m c < 4294967296 := by
  unfold crcByte
  exact Nat.xor_lt_two_pow (n := 32) (by omega) (crcSteps_lt 8 (Nat.lt_trans (Nat.xor_lt_two_pow (n := 8) (by omega) (by have := c.toNat_lt; omega)) (by decide)))
theorem crcAdd_lt (m : Nat) (l : List UInt8) : crcAdd m l < 4294967296 := unot32_lt _

theorem crc_and1 (m : Nat) (h : m < 4294967296) : bits BinOp.and IntKind.u32 (m : Int) 1 = ((m % 2 : Nat) : Int) := by
  have := (bits_nat .u32 32 (by decide) (fun n h0 h1 => by rw [IntKind.wrap_u32]; omega) m 1 (by omega) (by omega)).1
  have e : ((1 : Nat) : Int) = 1 := rfl
  rw [e] at this
  rw [this, Nat.and_one_is_mod]

/-! ### crc.entry -/
theorem entry_any (x : Int) (hx : U32 x) (w : World) :
    Calls Try.prog 68 #[.int .u32 x] w fun e w' => e = .returned (.int .u32 (crcSteps 8 x.toNat : Nat)) ∧ w = w' := by
  have hn : x.toNat < 4294967296 := by unfold U32 at hx; omega
  obtain ⟨n, rfl⟩ := Int.eq_ofNat_of_zero_le hx.1
  rw [Int.toNat_natCast] at *
  go_enter Try.func68, Try.ntmps68
  go_wp2
  go_loop [0, 4] (fun x i => ∃ k m : Nat, k ≤ 8 ∧ i = .int .i64 k ∧ m < 4294967296 ∧ x = .int .u32 m ∧ Hid (crcSteps (8 - k) m = crcSteps 8 n)) (fun _ i => (8 - intOf i).toNat)
  case atStart => exact ⟨0, n, by omega, rfl, by omega, rfl, rfl⟩
  case round =>
    obtain ⟨k, m, hk, rfl, hm, rfl, H⟩ := hrel
    go_wp2
    all_goals try
      have hlt : (k : Int) < 8 := by assumption
      have ek : 8 - k = (8 - (k + 1)) + 1 := by omega
      rw [ek, crcSteps_succ] at H
      refine ⟨⟨k + 1, crcStep m, by omega, by go_num, crcStep_lt hm, ?_, H⟩, by simp [intOf]; omega⟩
    · have hb : (bits BinOp.and IntKind.u32 (↑m) 1 == 1) = true := by assumption
      rw [crc_and1 m hm, beq_iff_eq] at hb
      have e : crcStep m = (m / 2) ^^^ 2197175160 := crcStep_odd (by omega)
      rw [e, ← u32_xor_nat _ _ (by omega) (by omega)]
      rfl
    · have hb : (bits BinOp.and IntKind.u32 (↑m) 1 == 1) = false := by assumption
      rw [crc_and1 m hm, beq_eq_false_iff_ne] at hb
      have e : crcStep m = (m / 2) := crcStep_even (by omega)
      rw [e]
      rfl
    · have hge : 8 ≤ (k : Int) := by assumption
      have ek : 8 - k = 0 := by omega
      rw [ek, crcSteps_zero] at H
      go_ret
      exact ⟨by rw [← H.out]; rfl, rfl⟩

/-! ### crc.table -/
def crcZeros : Array Value := Array.replicate 256 (.int .u32 0)
def crcArr (k : Nat) : Array Value := ((List.range 256).map (fun i => Value.int .u32 (if i < k then (crcSteps 8 i : Nat) else 0))).toArray
theorem crcArr_zero : crcArr 0 = crcZeros := by
  apply Array.ext
  · simp [crcArr, crcZeros]
  · intro i h1 h2; simp [crcArr, crcZeros]
theorem crcArr_size (k : Nat) : (crcArr k).size = 256 := by simp [crcArr]
theorem crcArr_set (k : Nat) : (crcArr k).setIfInBounds k (.int .u32 (crcSteps 8 k : Nat)) = crcArr (k + 1) := by
  apply Array.ext
  · simp [crcArr]
  · intro i h1 h2
    simp only [crcArr, List.setIfInBounds_toArray, List.getElem_toArray, List.getElem_set, List.getElem_map, List.getElem_range]
    by_cases h : k = i
    · subst h; simp
    · rw [if_neg h]
      by_cases h3 : i < k
      · rw [if_pos h3, if_pos (by omega)]
      · rw [if_neg h3, if_neg (by omega)]
theorem crcArr_get {j : Nat} (hj : j < 256) : (crcArr 256)[j]? = some (.int .u32 (crcSteps 8 j : Nat)) := by simp [crcArr, hj]
theorem crcArr_one (k : Nat) : ∀ v ∈ (crcArr k).toList, v.oneCell' = true := by
  intro v hv
  simp only [crcArr, List.mem_map] at hv
  obtain ⟨i, _, rfl⟩ := hv
  rfl
theorem crcZeros_size : crcZeros.size = 256 := by simp [crcZeros]
attribute [irreducible] crcZeros crcArr
theorem zero_tab (w : World) : (zeroValue 95).run Try.prog w = .ok (.agg crcZeros) w := by kernel_rfl

set_option maxRecDepth 100000 in
theorem table_any (w : World) :
    Calls Try.prog 66 #[] w fun e w' => e = .returned (.agg (crcArr 256)) ∧ Below w.heap.size w w' := by
  have hz := zero_tab
  go_enter Try.func66, Try.ntmps66
  go_wp2
  go_loopw [2, 3] (fun _ i wr => ∃ k : Nat, k ≤ 256 ∧ i = .int .i64 k ∧ wr.heap[w.heap.size + 1]? = some (.cells (crcArr k) 95 (0, 0)) ∧ wr.heap[w.heap.size]? = some (.cells crcZeros 95 (0, 0)) ∧ Below w.heap.size w wr) (fun _ i _ => (256 - intOf i).toNat)
  case atStart => exact ⟨0, by omega, rfl, by rw [crcArr_zero]; exact heap_alloc2_new _ _ _, heap_alloc2_old _ _ _, ((Below.refl _ _).alloc (Nat.le_refl _) _).alloc (by simp) _⟩
  case round =>
    obtain ⟨k, hk, rfl, hb, hz0, hbel⟩ := hrel
    have hsz := crcArr_size k
    by_cases hlt : k < 256
    · obtain ⟨v, hv⟩ : ∃ v, (crcArr k)[k]? = some v := ⟨_, Array.getElem?_eq_getElem (by omega)⟩
      have hc : wr.cell? ⟨w.heap.size + 1, k, none⟩ = some v := by rw [cell_of_row _ _ _ _ _ _ hb]; exact hv
      have hf : wr.frozen? ⟨w.heap.size + 1, k, none⟩ = false := frozen_of_row _ _ _ _ _ hb
      have hB := Lib.hid hb
      have hZ0 := Lib.hid hz0
      clear hb hz0 hv hsz
      go_wp2_with (go_at_call 68; refine (entry_any _ (by unfold U32; omega) _).mono ?_; rintro e w' ⟨rfl, rfl⟩)
      go_roundw
      case rel =>
        refine ⟨k + 1, by omega, by go_num, ?_, ?_, hbel.setCell (by simp) _⟩
        · rw [heap_setCell_same _ _ _ _ _ _ hB.out, ← crcArr_set k]
        · rw [heap_setCell_other _ _ _ _ (by simp)]; exact hZ0.out
      case measure => simp [intOf]; omega
    · obtain rfl : k = 256 := by omega
      have hB := Lib.hid hb
      have hZ0 := Lib.hid hz0
      clear hb hz0
      have hst : (storeCells ⟨w.heap.size, 0, none⟩ (crcArr 256).toList 0).run Try.prog wr = .ok () (wr.setRow w.heap.size (crcArr 256)) := by
        have h1 := run_storeCells_at (P := Try.prog) w.heap.size 0 95 (crcArr 256).toList 0 crcZeros wr hZ0.out (by simp [crcArr_size, crcZeros_size]) (crcArr_one 256)
        rw [h1]
        congr 2
        rw [List.drop_eq_nil_of_le (by simp [crcArr_size, crcZeros_size])]
        simp
      have HB' := Lib.hid (setRow_heap wr w.heap.size _ (crcArr 256) _ _ hZ0.out)
      have Hbel' := Lib.hid (below_setRow hbel (Nat.le_refl _) (crcArr 256))
      clear hbel hk hlt
      go_wp2_with (with_reducible refine wpList_load_row rfl 95 _ rfl _ rfl 95 (crcArr 256) (0, 0) _ hB.out Try.underlying95 rfl (by rw [crcArr_size]; kernel_rfl) ?_)
      exact bodyPost_ret (v := .agg (crcArr 256)) (results_cell_row rfl _ _ _ 95 _ _ _ rfl HB'.out Try.underlying95 rfl (by rw [crcArr_size]; kernel_rfl)) rfl ⟨rfl, Hbel'.out⟩

/-! ### crc.Add -/
set_option maxRecDepth 100000 in
theorem crcAdd_any (x : Int) (hx : U32 x) (A : Option Addr) (l : List UInt8) (c : Nat) (w : World) (hr : Reads w 1 A l.length (bv l)) (hm : l.length ≤ maxLen) :
    Calls Try.prog 54 #[.int .u32 x, .slice A l.length c] w fun e w' => e = .returned (.int .u32 (crcAdd x.toNat l : Nat)) ∧ Below w.heap.size w w' := by
  unfold maxLen at hm
  have hn : x.toNat < 4294967296 := by unfold U32 at hx; omega
  obtain ⟨n, rfl⟩ := Int.eq_ofNat_of_zero_le hx.1
  rw [Int.toNat_natCast] at *
  have hz := zero_tab
  have hsz := crcArr_size 256
  have hst : ∀ W : World, (storeCells ⟨W.heap.size, 0, none⟩ (crcArr 256).toList 0).run Try.prog (W.alloc (.cells crcZeros 95)) = .ok () (W.alloc (.cells (crcArr 256) 95)) := fun W =>
    run_storeCells_new W 95 _ _ (by rw [crcArr_size]; kernel_rfl) (by rw [crcArr_size, crcZeros_size]) (by rw [Array.all_eq_true']; intro v hv; exact crcArr_one _ v (by simpa using hv))
  have hsg : IntKind.u32.signed = false := rfl
  have hnot := not_u32 n hn
  have Hr := Lib.hid hr
  clear hr hx
  go_enter Try.func54, Try.ntmps54
  go_wp2_with (go_at_call 66; refine (table_any _).mono ?_; rintro e w1 ⟨rfl, hb1⟩)
  go_loop [6, 14] (fun x i => ∃ k m : Nat, k ≤ l.length ∧ i = .int .i64 k ∧ x = .int .u32 m ∧ m < 4294967296 ∧ Hid (m = (l.take k).foldl crcByte (unot32 n))) (fun _ i => (l.length - (intOf i).toNat))
  case atStart => exact ⟨0, unot32 n, by omega, rfl, rfl, unot32_lt n, rfl⟩
  case round =>
    obtain ⟨k, m, hk, rfl, rfl, hm, H⟩ := hrel
    clear hst hz hnot
    by_cases hlt : k < l.length
    · obtain ⟨ad, rfl, hv⟩ := ((Hr.out.below hb1).alloc (.cells (crcArr 256) 95)).byte hlt
      have hlc : l[k].toNat < 256 := l[k].toNat_lt
      have hx8 : bits BinOp.xor IntKind.u8 ((m : Int) % 256) (l[k].toNat : Int) = (((m % 256) ^^^ l[k].toNat : Nat) : Int) := u8_xor_nat (m % 256) _ (by omega) hlc
      have hj : (m % 256) ^^^ l[k].toNat < 256 := Nat.xor_lt_two_pow (n := 8) (by omega) hlc
      have hB : crcByte m l[k] = (m / 256) ^^^ crcSteps 8 ((m % 256) ^^^ l[k].toNat) := rfl
      generalize (m % 256) ^^^ l[k].toNat = j at hx8 hj hB
      have ht : (w1.alloc (.cells (crcArr 256) 95)).cell? ⟨w1.heap.size, j, none⟩ = some (.int .u32 (crcSteps 8 j : Nat)) := by
        rw [cell_of_row _ _ _ _ _ _ (heap_alloc_new _ _)]; exact crcArr_get hj
      have HB := Lib.hid hB
      clear hB hlc
      go_wp2
      go_round
      case rel =>
        refine ⟨k + 1, crcByte m l[k], by omega, by go_num, ?_, crcByte_lt _ _ hm, ?_⟩
        · rw [HB.out, ← u32_xor_nat _ _ (by omega) (crcSteps_lt 8 (by omega))]; rfl
        · show _ = _
          rw [List.take_succ_eq_append_getElem hlt, List.foldl_append, ← H.out]; rfl
      case measure => simp [intOf]; omega
    · have hk' : k = l.length := by omega
      subst hk'
      rw [List.take_length] at H
      have hnot := not_u32 m hm
      go_wp2
      go_ret
      refine ⟨?_, hb1.alloc hb1.size _⟩
      unfold crcAdd
      rw [← H.out]; rfl

theorem crcSum_any (A : Option Addr) (l : List UInt8) (c : Nat) (w : World) (hr : Reads w 1 A l.length (bv l)) (hm : l.length ≤ maxLen) :
    Calls Try.prog 33 #[.slice A l.length c] w fun e w' => e = .returned (.int .u32 (crcAdd 0 l : Nat)) ∧ Below w.heap.size w w' := by
  go_enter Try.func33, Try.ntmps33
  go_wp2_with (go_at_call 54; refine (crcAdd_any 0 ⟨by omega, by omega⟩ _ _ _ _ hr hm).mono ?_; rintro e w1 ⟨rfl, hb1⟩)
  go_ret
  exact ⟨rfl, hb1⟩


end Go.Proofs.Ytcahflddafdhfaa
