import Derived.Test.YtebcginnnjigjaaProg
import Derived.WalkKit
import Derived.WalkLawsBesides
import Derived.WalkSpells
import Derived.Lib.Hide
import Derived.KernelRfl
import Derived.Laws.BitsLemmas
import Derived.Laws.BitsAllLaws
import Derived.Laws.CopyOwn
import Derived.Laws.OwnMore
import Derived.Deep.WholeRow
import Derived.Deep.AppendLies
import Derived.Maps.AppendAt
section
/- Words on memory that this seat's texts share: a slice that reads as a list of cells, and how that is kept. -/
open Go.RowKit
namespace Go.Proofs.Ytebcginnnjigjaa

/-- The slice value '.slice A n c' (each element 'sz' cells) reads as the cells xs. -/
def Reads (w : World) (sz : Nat) (A : Option Addr) (n : Nat) (xs : List Value) : Prop :=
  xs.length = n * sz ∧ (0 < n → ∃ ad, A = some ad ∧ ∀ j u, xs[j]? = some u → w.cell? (ad.add j) = some u)

/-- Bytes, as cells. -/
def bv (l : List UInt8) : List Value := l.map fun b => Value.int .u8 (b.toNat : Int)

section
variable {w w' : World} {sz n : Nat} {A : Option Addr} {xs : List Value}
theorem block_of_add (a : Addr) (n : Nat) : (a.add n).block = a.block := by unfold Addr.add; split <;> rfl
theorem add_of_add (a : Addr) (i j : Nat) : (a.add i).add j = a.add (i + j) := by
  unfold Addr.add
  by_cases hi : i = 0 <;> by_cases hj : j = 0 <;> simp [hi, hj, Nat.add_assoc]
theorem Reads.nil (w : World) (sz : Nat) (A : Option Addr) : Reads w sz A 0 [] := ⟨by simp, fun h => absurd h (by omega)⟩
theorem Reads.keep (h : Reads w sz A n xs) (hk : ∀ p : Addr, ∀ u, w.cell? p = some u → w'.cell? p = some u) : Reads w' sz A n xs :=
  ⟨h.1, fun hn => by
    obtain ⟨ad, e, hc⟩ := h.2 hn
    exact ⟨ad, e, fun j u hu => hk _ _ (hc j u hu)⟩⟩
theorem Reads.below (h : Reads w sz A n xs) (hb : Below w.heap.size w w') : Reads w' sz A n xs :=
  h.keep fun _ _ hp => (hb.cell (World.block_lt_of_cell? _ _ hp)).trans hp
theorem Reads.alloc (h : Reads w sz A n xs) (o : Obj) : Reads (w.alloc o) sz A n xs :=
  h.keep fun _ _ hp => (World.cell?_alloc_lt _ _ _ (World.block_lt_of_cell? _ _ hp)).trans hp
theorem Reads.at_ {k : Nat} {u : Value} (h : Reads w 1 A n xs) (hk : k < n) (hu : xs[k]? = some u) : ∃ ad, A = some ad ∧ w.cell? (ad.add k) = some u := by
  obtain ⟨ad, e, hc⟩ := h.2 (by omega)
  exact ⟨ad, e, hc k u hu⟩
theorem Reads.byte {k : Nat} {l : List UInt8} (h : Reads w 1 A l.length (bv l)) (hk : k < l.length) : ∃ ad, A = some ad ∧ w.cell? (ad.add k) = some (.int .u8 (l[k].toNat : Int)) :=
  h.at_ hk (by simp [bv, hk])
theorem Reads.of_own {base : Nat} {e : TypeId} {c : Nat} (h : w.ownsRow base e sz (.slice A n c) n xs) : Reads w sz A n xs := by
  refine ⟨h.1, fun hn => ?_⟩
  obtain ⟨g, cap, hv, _, hlt⟩ := h.form hn
  have hA : A = some ⟨g, 0, none⟩ := by injection hv
  subst hA
  exact ⟨_, rfl, h.cells (g := g) rfl⟩
theorem Reads.of_block {g : Nat} {cs : Array Value} {t : TypeId} {fr : Nat × Nat} (hg : w.heap[g]? = some (.cells cs t fr)) (h : cs.size = n * sz) : Reads w sz (some ⟨g, 0, none⟩) n cs.toList := by
  refine ⟨by simpa using h, fun _ => ⟨_, rfl, fun j u hu => ?_⟩⟩
  have ha : (⟨g, 0, none⟩ : Addr).add j = ⟨g, j, none⟩ := by unfold Addr.add; split <;> simp_all
  rw [ha, cell_of_row _ _ _ _ _ _ hg]
  simpa using hu
end
theorem below_then {B : Nat} {w w1 w2 : World} (h : Below B w w1) (k : Below w1.heap.size w1 w2) (hB : B ≤ w1.heap.size) : Below B w w2 :=
  h.trans (k.mono hB)
theorem below_fresh {w w1 w2 : World} (h : Below w.heap.size w w1) (k : Below w1.heap.size w1 w2) : Below w.heap.size w w2 := h.trans (k.mono h.size)
theorem bv_length (l : List UInt8) : (bv l).length = l.length := by simp [bv]
theorem bv_append (a b : List UInt8) : bv (a ++ b) = bv a ++ bv b := by simp [bv]
theorem oneCell_bv (l : List UInt8) : ∀ u ∈ bv l, u.oneCell' = true := by
  intro u hu
  simp only [bv, List.mem_map] at hu
  obtain ⟨b, _, rfl⟩ := hu
  rfl

/-- A number of 32 bits without a sign; kept closed, since the walk doesn't bear the large numeral. -/
def U32 (x : Int) : Prop := 0 ≤ x ∧ x < 4294967296
theorem U32.of_wf {x : Int} (h : (Lit.int .u32 x).wf = true) : U32 x := by
  have := h
  simp only [Lit.wf, IntKind.min, IntKind.max, IntKind.signed, IntKind.bits] at this
  simp at this
  unfold U32
  omega

end Go.Proofs.Ytebcginnnjigjaa

end
section
/- The contracts of crc's functions, and of their references: a sum is a fold over bytes, each eight steps. -/
open Go.RowKit
namespace Go.Proofs.Ytebcginnnjigjaa

/-! ### what is reckoned -/
def crcStep (n : Nat) : Nat := if n % 2 = 1 then (n / 2) ^^^ 2197175160 else n / 2
def crcSteps : Nat → Nat → Nat
  | 0, n => n
  | k + 1, n => crcSteps k (crcStep n)
theorem crcStep_lt {n : Nat} (h : n < 4294967296) : crcStep n < 4294967296 := by
  unfold crcStep
  split
  · exact Nat.xor_lt_two_pow (n := 32) (by omega) (by omega)
  · omega
theorem crcSteps_lt (k : Nat) : ∀ {n : Nat}, n < 4294967296 → crcSteps k n < 4294967296 := by
  induction k with
  | zero => intro n h; exact h
  | succ k ih => intro n h; exact ih (crcStep_lt h)
theorem crcSteps_succ (k n : Nat) : crcSteps (k + 1) n = crcSteps k (crcStep n) := rfl
theorem crcSteps_zero (n : Nat) : crcSteps 0 n = n := rfl
theorem crcStep_odd {n : Nat} (h : n % 2 = 1) : crcStep n = (n / 2) ^^^ 2197175160 := by unfold crcStep; rw [if_pos h]
theorem crcStep_even {n : Nat} (h : ¬ n % 2 = 1) : crcStep n = n / 2 := by unfold crcStep; rw [if_neg h]
attribute [irreducible] crcStep crcSteps

def unot32 (n : Nat) : Nat := 4294967295 - n
theorem unot32_lt (n : Nat) : unot32 n < 4294967296 := by unfold unot32; omega
theorem unot32_inj {a b : Nat} (ha : a < 4294967296) (hb : b < 4294967296) (h : unot32 a = unot32 b) : a = b := by unfold unot32 at h; omega
theorem unot32_unot32 {a : Nat} (ha : a < 4294967296) : unot32 (unot32 a) = a := by unfold unot32; omega
theorem not_u32 (n : Nat) (h : n < 4294967296) : bits BinOp.xor IntKind.u32 IntKind.u32.max (n : Int) = (unot32 n : Nat) := by
  have e : IntKind.u32.max = ((4294967295 : Nat) : Int) := by decide
  rw [e, u32_xor_nat _ _ (by omega) h]
  congr 1
  have h1 := congrArg BitVec.toNat (BitVec.allOnes_xor (x := BitVec.ofNat 32 n))
  rw [BitVec.toNat_xor, BitVec.toNat_not, BitVec.toNat_allOnes, BitVec.toNat_ofNat, Nat.mod_eq_of_lt (by omega)] at h1
  unfold unot32
  exact h1
attribute [irreducible] unot32

def crcByte (m : Nat) (c : UInt8) : Nat := (m / 256) ^^^ crcSteps 8 ((m % 256) ^^^ c.toNat)
def crcAdd (sum : Nat) (l : List UInt8) : Nat := unot32 (l.foldl crcByte (unot32 sum))
theorem crcByte_lt (m : Nat) (c : UInt8) (h : m < 4294967296) : crcByte m c < 4294967296 := by
  unfold crcByte
  exact Nat.xor_lt_two_pow (n := 32) (by omega) (crcSteps_lt 8 (Nat.lt_trans (Nat.xor_lt_two_pow (n := 8) (by omega) (by have := c.toNat_lt; omega)) (by decide)))
theorem crcAdd_lt (m : Nat) (l : List UInt8) : crcAdd m l < 4294967296 := unot32_lt _

theorem crc_and1 (m : Nat) (h : m < 4294967296) : bits BinOp.and IntKind.u32 (m : Int) 1 = ((m % 2 : Nat) : Int) := by
  have := (bits_nat .u32 32 (by decide) (fun n h0 h1 => by rw [IntKind.wrap_u32]; omega) m 1 (by omega) (by omega)).1
  have e : ((1 : Nat) : Int) = 1 := rfl
  rw [e] at this
  rw [this, Nat.and_one_is_mod]

/-! ### crc.entry -/
theorem entry_any (x : Int) (hx : U32 x) (w : World) :
    Calls Try.prog 93 #[.int .u32 x] w fun e w' => e = .returned (.int .u32 (crcSteps 8 x.toNat : Nat)) ∧ w = w' := by
  have hn : x.toNat < 4294967296 := by unfold U32 at hx; omega
  obtain ⟨n, rfl⟩ := Int.eq_ofNat_of_zero_le hx.1
  rw [Int.toNat_natCast] at *
  go_enter Try.func93, Try.ntmps93
  go_wp2
  go_loop [0, 4] (fun x i => ∃ k m : Nat, k ≤ 8 ∧ i = .int .i64 k ∧ m < 4294967296 ∧ x = .int .u32 m ∧ Hid (crcSteps (8 - k) m = crcSteps 8 n)) (fun _ i => (8 - intOf i).toNat)
  case atStart => exact ⟨0, n, by omega, rfl, by omega, rfl, rfl⟩
  case round =>
    obtain ⟨k, m, hk, rfl, hm, rfl, H⟩ := hrel
    go_wp2
    all_goals try
      have hlt : (k : Int) < 8 := by assumption
      have ek : 8 - k = (8 - (k + 1)) + 1 := by omega
      rw [ek, crcSteps_succ] at H
      refine ⟨⟨k + 1, crcStep m, by omega, by go_num, crcStep_lt hm, ?_, H⟩, by simp [intOf]; omega⟩
    · have hb : (bits BinOp.and IntKind.u32 (↑m) 1 == 1) = true := by assumption
      rw [crc_and1 m hm, beq_iff_eq] at hb
      have e : crcStep m = (m / 2) ^^^ 2197175160 := crcStep_odd (by omega)
      rw [e, ← u32_xor_nat _ _ (by omega) (by omega)]
      rfl
    · have hb : (bits BinOp.and IntKind.u32 (↑m) 1 == 1) = false := by assumption
      rw [crc_and1 m hm, beq_eq_false_iff_ne] at hb
      have e : crcStep m = (m / 2) := crcStep_even (by omega)
      rw [e]
      rfl
    · have hge : 8 ≤ (k : Int) := by assumption
      have ek : 8 - k = 0 := by omega
      rw [ek, crcSteps_zero] at H
      go_ret
      exact ⟨by rw [← H.out]; rfl, rfl⟩

/-! ### crc.table -/
def crcZeros : Array Value := Array.replicate 256 (.int .u32 0)
def crcArr (k : Nat) : Array Value := ((List.range 256).map (fun i => Value.int .u32 (if i < k then (crcSteps 8 i : Nat) else 0))).toArray
theorem crcArr_zero : crcArr 0 = crcZeros := by
  apply Array.ext
  · simp [crcArr, crcZeros]
  · intro i h1 h2; simp [crcArr, crcZeros]
theorem crcArr_size (k : Nat) : (crcArr k).size = 256 := by simp [crcArr]
theorem crcArr_set (k : Nat) : (crcArr k).setIfInBounds k (.int .u32 (crcSteps 8 k : Nat)) = crcArr (k + 1) := by
  apply Array.ext
  · simp [crcArr]
  · intro i h1 h2
    simp only [crcArr, List.setIfInBounds_toArray, List.getElem_toArray, List.getElem_set, List.getElem_map, List.getElem_range]
    by_cases h : k = i
    · subst h; simp
    · rw [if_neg h]
      by_cases h3 : i < k
      · rw [if_pos h3, if_pos (by omega)]
      · rw [if_neg h3, if_neg (by omega)]
theorem crcArr_get {j : Nat} (hj : j < 256) : (crcArr 256)[j]? = some (.int .u32 (crcSteps 8 j : Nat)) := by simp [crcArr, hj]
theorem crcArr_one (k : Nat) : ∀ v ∈ (crcArr k).toList, v.oneCell' = true := by
  intro v hv
  simp only [crcArr, List.mem_map] at hv
  obtain ⟨i, _, rfl⟩ := hv
  rfl
theorem crcZeros_size : crcZeros.size = 256 := by simp [crcZeros]
attribute [irreducible] crcZeros crcArr
theorem zero_tab (w : World) : (zeroValue 129).run Try.prog w = .ok (.agg crcZeros) w := by kernel_rfl

set_option maxRecDepth 100000 in
theorem table_any (w : World) :
    Calls Try.prog 77 #[] w fun e w' => e = .returned (.agg (crcArr 256)) ∧ Below w.heap.size w w' := by
  have hz := zero_tab
  go_enter Try.func77, Try.ntmps77
  go_wp2
  go_loopw [2, 3] (fun _ i wr => ∃ k : Nat, k ≤ 256 ∧ i = .int .i64 k ∧ wr.heap[w.heap.size + 1]? = some (.cells (crcArr k) 129 (0, 0)) ∧ wr.heap[w.heap.size]? = some (.cells crcZeros 129 (0, 0)) ∧ Below w.heap.size w wr) (fun _ i _ => (256 - intOf i).toNat)
  case atStart => exact ⟨0, by omega, rfl, by rw [crcArr_zero]; exact heap_alloc2_new _ _ _, heap_alloc2_old _ _ _, ((Below.refl _ _).alloc (Nat.le_refl _) _).alloc (by simp) _⟩
  case round =>
    obtain ⟨k, hk, rfl, hb, hz0, hbel⟩ := hrel
    have hsz := crcArr_size k
    by_cases hlt : k < 256
    · obtain ⟨v, hv⟩ : ∃ v, (crcArr k)[k]? = some v := ⟨_, Array.getElem?_eq_getElem (by omega)⟩
      have hc : wr.cell? ⟨w.heap.size + 1, k, none⟩ = some v := by rw [cell_of_row _ _ _ _ _ _ hb]; exact hv
      have hf : wr.frozen? ⟨w.heap.size + 1, k, none⟩ = false := frozen_of_row _ _ _ _ _ hb
      have hB := Lib.hid hb
      have hZ0 := Lib.hid hz0
      clear hb hz0 hv hsz
      go_wp2_with (go_at_call 93; refine (entry_any _ (by unfold U32; omega) _).mono ?_; rintro e w' ⟨rfl, rfl⟩)
      go_roundw
      case rel =>
        refine ⟨k + 1, by omega, by go_num, ?_, ?_, hbel.setCell (by simp) _⟩
        · rw [heap_setCell_same _ _ _ _ _ _ hB.out, ← crcArr_set k]
        · rw [heap_setCell_other _ _ _ _ (by simp)]; exact hZ0.out
      case measure => simp [intOf]; omega
    · obtain rfl : k = 256 := by omega
      have hB := Lib.hid hb
      have hZ0 := Lib.hid hz0
      clear hb hz0
      have hst : (storeCells ⟨w.heap.size, 0, none⟩ (crcArr 256).toList 0).run Try.prog wr = .ok () (wr.setRow w.heap.size (crcArr 256)) := by
        have h1 := run_storeCells_at (P := Try.prog) w.heap.size 0 129 (crcArr 256).toList 0 crcZeros wr hZ0.out (by simp [crcArr_size, crcZeros_size]) (crcArr_one 256)
        rw [h1]
        congr 2
        rw [List.drop_eq_nil_of_le (by simp [crcArr_size, crcZeros_size])]
        simp
      have HB' := Lib.hid (setRow_heap wr w.heap.size _ (crcArr 256) _ _ hZ0.out)
      have Hbel' := Lib.hid (below_setRow hbel (Nat.le_refl _) (crcArr 256))
      clear hbel hk hlt
      go_wp2_with (with_reducible refine wpList_load_row rfl 129 _ rfl _ rfl 129 (crcArr 256) (0, 0) _ hB.out Try.underlying129 rfl (by rw [crcArr_size]; kernel_rfl) ?_)
      exact bodyPost_ret (v := .agg (crcArr 256)) (results_cell_row rfl _ _ _ 129 _ _ _ rfl HB'.out Try.underlying129 rfl (by rw [crcArr_size]; kernel_rfl)) rfl ⟨rfl, Hbel'.out⟩

/-! ### crc.Add -/
set_option maxRecDepth 100000 in
theorem crcAdd_any (x : Int) (hx : U32 x) (A : Option Addr) (l : List UInt8) (c : Nat) (w : World) (hr : Reads w 1 A l.length (bv l)) (hm : l.length ≤ maxLen) :
    Calls Try.prog 55 #[.int .u32 x, .slice A l.length c] w fun e w' => e = .returned (.int .u32 (crcAdd x.toNat l : Nat)) ∧ Below w.heap.size w w' := by
  unfold maxLen at hm
  have hn : x.toNat < 4294967296 := by unfold U32 at hx; omega
  obtain ⟨n, rfl⟩ := Int.eq_ofNat_of_zero_le hx.1
  rw [Int.toNat_natCast] at *
  have hz := zero_tab
  have hsz := crcArr_size 256
  have hst : ∀ W : World, (storeCells ⟨W.heap.size, 0, none⟩ (crcArr 256).toList 0).run Try.prog (W.alloc (.cells crcZeros 129)) = .ok () (W.alloc (.cells (crcArr 256) 129)) := fun W =>
    run_storeCells_new W 129 _ _ (by rw [crcArr_size]; kernel_rfl) (by rw [crcArr_size, crcZeros_size]) (by rw [Array.all_eq_true']; intro v hv; exact crcArr_one _ v (by simpa using hv))
  have hsg : IntKind.u32.signed = false := rfl
  have hnot := not_u32 n hn
  have Hr := Lib.hid hr
  clear hr hx
  go_enter Try.func55, Try.ntmps55
  go_wp2_with (go_at_call 77; refine (table_any _).mono ?_; rintro e w1 ⟨rfl, hb1⟩)
  go_loop [6, 14] (fun x i => ∃ k m : Nat, k ≤ l.length ∧ i = .int .i64 k ∧ x = .int .u32 m ∧ m < 4294967296 ∧ Hid (m = (l.take k).foldl crcByte (unot32 n))) (fun _ i => (l.length - (intOf i).toNat))
  case atStart => exact ⟨0, unot32 n, by omega, rfl, rfl, unot32_lt n, rfl⟩
  case round =>
    obtain ⟨k, m, hk, rfl, rfl, hm, H⟩ := hrel
    clear hst hz hnot
    by_cases hlt : k < l.length
    · obtain ⟨ad, rfl, hv⟩ := ((Hr.out.below hb1).alloc (.cells (crcArr 256) 129)).byte hlt
      have hlc : l[k].toNat < 256 := l[k].toNat_lt
      have hx8 : bits BinOp.xor IntKind.u8 ((m : Int) % 256) (l[k].toNat : Int) = (((m % 256) ^^^ l[k].toNat : Nat) : Int) := u8_xor_nat (m % 256) _ (by omega) hlc
      have hj : (m % 256) ^^^ l[k].toNat < 256 := Nat.xor_lt_two_pow (n := 8) (by omega) hlc
      have hB : crcByte m l[k] = (m / 256) ^^^ crcSteps 8 ((m % 256) ^^^ l[k].toNat) := rfl
      generalize (m % 256) ^^^ l[k].toNat = j at hx8 hj hB
      have ht : (w1.alloc (.cells (crcArr 256) 129)).cell? ⟨w1.heap.size, j, none⟩ = some (.int .u32 (crcSteps 8 j : Nat)) := by
        rw [cell_of_row _ _ _ _ _ _ (heap_alloc_new _ _)]; exact crcArr_get hj
      have HB := Lib.hid hB
      clear hB hlc
      go_wp2
      go_round
      case rel =>
        refine ⟨k + 1, crcByte m l[k], by omega, by go_num, ?_, crcByte_lt _ _ hm, ?_⟩
        · rw [HB.out, ← u32_xor_nat _ _ (by omega) (crcSteps_lt 8 (by omega))]; rfl
        · show _ = _
          rw [List.take_succ_eq_append_getElem hlt, List.foldl_append, ← H.out]; rfl
      case measure => simp [intOf]; omega
    · have hk' : k = l.length := by omega
      subst hk'
      rw [List.take_length] at H
      have hnot := not_u32 m hm
      go_wp2
      go_ret
      refine ⟨?_, hb1.alloc hb1.size _⟩
      unfold crcAdd
      rw [← H.out]; rfl

theorem crcSum_any (A : Option Addr) (l : List UInt8) (c : Nat) (w : World) (hr : Reads w 1 A l.length (bv l)) (hm : l.length ≤ maxLen) :
    Calls Try.prog 35 #[.slice A l.length c] w fun e w' => e = .returned (.int .u32 (crcAdd 0 l : Nat)) ∧ Below w.heap.size w w' := by
  go_enter Try.func35, Try.ntmps35
  go_wp2_with (go_at_call 55; refine (crcAdd_any 0 ⟨by omega, by omega⟩ _ _ _ _ hr hm).mono ?_; rintro e w1 ⟨rfl, hb1⟩)
  go_ret
  exact ⟨rfl, hb1⟩


end Go.Proofs.Ytebcginnnjigjaa

end
section
/- The plain laws of the sum: two texts one behind the other; another byte is another sum. -/
open Go.RowKit
namespace Go.Proofs.Ytebcginnnjigjaa

theorem crcAdd_append (a b : List UInt8) (s : Nat) : crcAdd (crcAdd s a) b = crcAdd s (a ++ b) := by
  have hlt : ∀ (l : List UInt8) (m : Nat), m < 4294967296 → l.foldl crcByte m < 4294967296 := by
    intro l
    induction l with
    | nil => intro m h; exact h
    | cons c l ih => intro m h; exact ih _ (crcByte_lt m c h)
  unfold crcAdd
  rw [List.foldl_append, unot32_unot32 (hlt a _ (unot32_lt s))]

/-- By the highest byte of an entry, which entry it is. -/
def crcWho : List Nat := [0, 241, 226, 19, 196, 53, 38, 215, 136, 121, 106, 155, 76, 189, 174, 95, 16, 225, 242, 3, 212, 37, 54, 199, 152, 105, 122, 139, 92, 173, 190, 79, 32, 209, 194, 51, 228, 21, 6, 247, 168, 89, 74, 187, 108, 157, 142, 127, 48, 193, 210, 35, 244, 5, 22, 231, 184, 73, 90, 171, 124, 141, 158, 111, 177, 64, 83, 162, 117, 132, 151, 102, 57, 200, 219, 42, 253, 12, 31, 238, 161, 80, 67, 178, 101, 148, 135, 118, 41, 216, 203, 58, 237, 28, 15, 254, 145, 96, 115, 130, 85, 164, 183, 70, 25, 232, 251, 10, 221, 44, 63, 206, 129, 112, 99, 146, 69, 180, 167, 86, 9, 248, 235, 26, 205, 60, 47, 222, 98, 147, 128, 113, 166, 87, 68, 181, 234, 27, 8, 249, 46, 223, 204, 61, 114, 131, 144, 97, 182, 71, 84, 165, 250, 11, 24, 233, 62, 207, 220, 45, 66, 179, 160, 81, 134, 119, 100, 149, 202, 59, 40, 217, 14, 255, 236, 29, 82, 163, 176, 65, 150, 103, 116, 133, 218, 43, 56, 201, 30, 239, 252, 13, 211, 34, 49, 192, 23, 230, 245, 4, 91, 170, 185, 72, 159, 110, 125, 140, 195, 50, 33, 208, 7, 246, 229, 20, 75, 186, 169, 88, 143, 126, 109, 156, 243, 2, 17, 224, 55, 198, 213, 36, 123, 138, 153, 104, 191, 78, 93, 172, 227, 18, 1, 240, 39, 214, 197, 52, 107, 154, 137, 120, 175, 94, 77, 188]
theorem crcWho_all : (List.range 256).all (fun i => crcWho.getD (crcSteps 8 i >>> 24) 256 == i) = true := by decide +kernel
theorem crcWho_of {i : Nat} (h : i < 256) : crcWho.getD (crcSteps 8 i >>> 24) 256 = i := by
  have := List.all_eq_true.1 crcWho_all i (List.mem_range.2 h)
  simpa using this
theorem crcTop_inj {i j : Nat} (hi : i < 256) (hj : j < 256) (h : crcSteps 8 i >>> 24 = crcSteps 8 j >>> 24) : i = j := by
  rw [← crcWho_of hi, ← crcWho_of hj, h]

theorem xor_cancel_right {a b c : Nat} (h : a ^^^ c = b ^^^ c) : a = b := by
  have := congrArg (· ^^^ c) h
  simpa [Nat.xor_assoc] using this
theorem xor_cancel_left {a b c : Nat} (h : c ^^^ a = c ^^^ b) : a = b := by
  rw [Nat.xor_comm c, Nat.xor_comm c] at h
  exact xor_cancel_right h

theorem crcByte_top (m : Nat) (c : UInt8) (h : m < 4294967296) : crcByte m c >>> 24 = crcSteps 8 ((m % 256) ^^^ c.toNat) >>> 24 := by
  unfold crcByte
  rw [Nat.shiftRight_xor_distrib]
  have : (m / 256) >>> 24 = 0 := by rw [Nat.shiftRight_eq_div_pow]; omega
  rw [this, Nat.zero_xor]
theorem crcIdx_lt (m : Nat) (c : UInt8) : (m % 256) ^^^ c.toNat < 256 := Nat.xor_lt_two_pow (n := 8) (by omega) (by have := c.toNat_lt; omega)
theorem crcByte_idx {m m' : Nat} {c c' : UInt8} (h : m < 4294967296) (h' : m' < 4294967296) (e : crcByte m c = crcByte m' c') : (m % 256) ^^^ c.toNat = (m' % 256) ^^^ c'.toNat :=
  crcTop_inj (crcIdx_lt m c) (crcIdx_lt m' c') (by rw [← crcByte_top m c h, ← crcByte_top m' c' h', e])
theorem crcByte_inj_state {m m' : Nat} {c : UInt8} (h : m < 4294967296) (h' : m' < 4294967296) (e : crcByte m c = crcByte m' c) : m = m' := by
  have hi := crcByte_idx h h' e
  have h1 := xor_cancel_right hi
  unfold crcByte at e
  rw [hi] at e
  have h2 := xor_cancel_right e
  omega
theorem crcByte_inj_byte {m : Nat} {c c' : UInt8} (h : m < 4294967296) (e : crcByte m c = crcByte m c') : c = c' :=
  UInt8.toNat_inj.1 (xor_cancel_left (crcByte_idx h h e))

theorem crcFold_lt (l : List UInt8) : ∀ m, m < 4294967296 → l.foldl crcByte m < 4294967296 := by
  induction l with
  | nil => intro m h; exact h
  | cons c l ih => intro m h; exact ih _ (crcByte_lt m c h)
theorem crcFold_inj (l : List UInt8) : ∀ {m m' : Nat}, m < 4294967296 → m' < 4294967296 → l.foldl crcByte m = l.foldl crcByte m' → m = m' := by
  induction l with
  | nil => intro m m' _ _ h; exact h
  | cons c l ih => intro m m' h h' e; exact crcByte_inj_state h h' (ih (crcByte_lt m c h) (crcByte_lt m' c h') e)

theorem crc_set_ne (l : List UInt8) (k : Nat) (hk : k < l.length) (b : UInt8) (hb : l[k] ≠ b) (s : Nat) : crcAdd s (l.set k b) ≠ crcAdd s l := by
  have e1 : l = l.take k ++ l[k] :: l.drop (k + 1) := by simp
  have e2 : l.set k b = l.take k ++ b :: l.drop (k + 1) := by rw [List.set_eq_take_append_cons_drop, if_pos hk]
  intro h
  rw [e2] at h
  have h3 : crcAdd s (l.take k ++ b :: l.drop (k + 1)) = crcAdd s (l.take k ++ l[k] :: l.drop (k + 1)) := by rw [h, ← e1]
  unfold crcAdd at h3
  rw [List.foldl_append, List.foldl_append, List.foldl_cons, List.foldl_cons] at h3
  have hm := crcFold_lt (l.take k) _ (unot32_lt s)
  have h4 := unot32_inj (crcFold_lt _ _ (crcByte_lt _ _ hm)) (crcFold_lt _ _ (crcByte_lt _ _ hm)) h3
  exact hb (crcByte_inj_byte hm (crcFold_inj _ (crcByte_lt _ _ hm) (crcByte_lt _ _ hm) h4)).symm
end Go.Proofs.Ytebcginnnjigjaa

end
section
/- The contracts of the references of crc: the same numbers. -/
open Go.RowKit
namespace Go.Proofs.Ytebcginnnjigjaa

theorem refEntry_any (x : Int) (h0 : 0 ≤ x) (h1 : x < 256) (w : World) :
    Calls Try.prog 78 #[.int .u8 x] w fun e w' => e = .returned (.int .u32 (crcSteps 8 x.toNat : Nat)) ∧ w = w' := by
  obtain ⟨n, rfl⟩ := Int.eq_ofNat_of_zero_le h0
  rw [Int.toNat_natCast] at *
  have hn : n < 4294967296 := by omega
  clear h0 h1
  go_enter Try.func78, Try.ntmps78
  go_wp2
  go_loop [3, 4] (fun x i => ∃ k m : Nat, k ≤ 8 ∧ i = .int .i64 k ∧ m < 4294967296 ∧ x = .int .u32 m ∧ Hid (crcSteps (8 - k) m = crcSteps 8 n)) (fun _ i => (8 - intOf i).toNat)
  case atStart => exact ⟨0, n, by omega, rfl, by omega, rfl, rfl⟩
  case round =>
    obtain ⟨k, m, hk, rfl, hm, rfl, H⟩ := hrel
    by_cases hlt : k < 8
    · have ek : 8 - k = (8 - (k + 1)) + 1 := by omega
      rw [ek, crcSteps_succ] at H
      clear ek
      by_cases ho : m % 2 = 1
      · have hb : (((m : Int) % 2) == 1) = true := by rw [beq_iff_eq]; omega
        clear ho
        go_wp2
        have ho : m % 2 = 1 := by rw [beq_iff_eq] at hb; omega
        refine ⟨⟨k + 1, crcStep m, by omega, by go_num, crcStep_lt hm, ?_, H⟩, by simp [intOf]; omega⟩
        rw [crcStep_odd ho, ← u32_xor_nat _ _ (by omega) (by omega)]
        rfl
      · have hb : (((m : Int) % 2) == 1) = false := by rw [beq_eq_false_iff_ne]; omega
        clear ho
        go_wp2
        have ho : ¬ m % 2 = 1 := by rw [beq_eq_false_iff_ne] at hb; omega
        refine ⟨⟨k + 1, crcStep m, by omega, by go_num, crcStep_lt hm, ?_, H⟩, by simp [intOf]; omega⟩
        rw [crcStep_even ho]
        rfl
    · have ek : 8 - k = 0 := by omega
      rw [ek, crcSteps_zero] at H
      go_wp2
      go_ret
      exact ⟨by rw [← H.out]; rfl, rfl⟩

set_option maxRecDepth 100000 in
theorem refAdd_any (x : Int) (hx : U32 x) (A : Option Addr) (l : List UInt8) (c : Nat) (w : World) (hr : Reads w 1 A l.length (bv l)) (hm : l.length ≤ maxLen) :
    Calls Try.prog 71 #[.int .u32 x, .slice A l.length c] w fun e w' => e = .returned (.int .u32 (crcAdd x.toNat l : Nat)) ∧ w = w' := by
  unfold maxLen at hm
  have hn : x.toNat < 4294967296 := by unfold U32 at hx; omega
  obtain ⟨n, rfl⟩ := Int.eq_ofNat_of_zero_le hx.1
  rw [Int.toNat_natCast] at *
  have hsg : IntKind.u32.signed = false := rfl
  have hnot := not_u32 n hn
  have Hr := Lib.hid hr
  clear hr hx
  go_enter Try.func71, Try.ntmps71
  go_wp2
  go_loop [5, 6] (fun x i => ∃ k m : Nat, k ≤ l.length ∧ i = .int .i64 k ∧ x = .int .u32 m ∧ m < 4294967296 ∧ Hid (m = (l.take k).foldl crcByte (unot32 n))) (fun _ i => (l.length - (intOf i).toNat))
  case atStart => exact ⟨0, unot32 n, by omega, rfl, rfl, unot32_lt n, rfl⟩
  case round =>
    obtain ⟨k, m, hk, rfl, rfl, hm, H⟩ := hrel
    clear hnot
    by_cases hlt : k < l.length
    · obtain ⟨ad, rfl, hv⟩ := Hr.out.byte hlt
      have hlc : l[k].toNat < 256 := l[k].toNat_lt
      have hx8 : bits BinOp.xor IntKind.u8 ((m : Int) % 256) (l[k].toNat : Int) = (((m % 256) ^^^ l[k].toNat : Nat) : Int) := u8_xor_nat (m % 256) _ (by omega) hlc
      have hj : (m % 256) ^^^ l[k].toNat < 256 := Nat.xor_lt_two_pow (n := 8) (by omega) hlc
      have hB : crcByte m l[k] = (m / 256) ^^^ crcSteps 8 ((m % 256) ^^^ l[k].toNat) := rfl
      generalize (m % 256) ^^^ l[k].toNat = j at hx8 hj hB
      have HB := Lib.hid hB
      clear hB hlc
      go_wp2_with (go_at_call 78; refine (refEntry_any _ (by omega) (by omega) _).mono ?_; rintro e w1 ⟨rfl, rfl⟩)
      go_round
      case rel =>
        refine ⟨k + 1, crcByte m l[k], by omega, by go_num, ?_, crcByte_lt _ _ hm, ?_⟩
        · rw [HB.out, ← u32_xor_nat _ _ (by omega) (crcSteps_lt 8 (by omega))]; rfl
        · show _ = _
          rw [List.take_succ_eq_append_getElem hlt, List.foldl_append, ← H.out]; rfl
      case measure => simp [intOf]; omega
    · have hk' : k = l.length := by omega
      subst hk'
      rw [List.take_length] at H
      have hnot := not_u32 m hm
      go_wp2
      go_ret
      refine ⟨?_, rfl⟩
      unfold crcAdd
      rw [← H.out]; rfl

theorem refSum_any (A : Option Addr) (l : List UInt8) (c : Nat) (w : World) (hr : Reads w 1 A l.length (bv l)) (hm : l.length ≤ maxLen) :
    Calls Try.prog 44 #[.slice A l.length c] w fun e w' => e = .returned (.int .u32 (crcAdd 0 l : Nat)) ∧ w = w' := by
  go_enter Try.func44, Try.ntmps44
  go_wp2_with (go_at_call 71; refine (refAdd_any 0 ⟨by omega, by omega⟩ _ _ _ _ hr hm).mono ?_; rintro e w1 ⟨rfl, rfl⟩)
  go_ret
  exact ⟨rfl, rfl⟩

end Go.Proofs.Ytebcginnnjigjaa

end
