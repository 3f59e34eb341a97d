/- One, and then another one: the rows that are sorted by the library. -/
import Derived.Test.YtjlecfckcciagaaThen3
import Derived.Test.YtjlecfckcciagaaShelf
import Derived.Test.YtjlecfckcciagaaStr
import Derived.Shelf.SlSortCmp.NoneTotal
open Go.RowKit Go.Maps Go.Shelf Go.Sort
namespace Go.Proofs.Ytjlecfckcciagaa

/-! ### the row's cells, flat -/
theorem flat_pks (ps : List (Int × ByteArray)) : flatK pk 2 ps.toArray = (pks ps).toArray := by
  refine ext_get! (by rw [size_flatK]; simp [pks_length]) fun t ht => ?_
  have ht2 : t < ps.length * 2 := by simpa using ht
  rw [get_flatK _ _ _ _ (by simpa using ht2)]
  have hk : t / 2 < ps.length := by omega
  have e1 : ps.toArray[t / 2]! = ps[t / 2] := by simp [hk]
  have h0 := pks_get0 ps (t / 2) hk
  have h1 := pks_get1 ps (t / 2) hk
  have hl : t < (pks ps).length := by rw [pks_length]; exact ht2
  have e2 : (pks ps).toArray[t]! = (pks ps)[t] := by simp [hl]
  rw [e1, e2]
  generalize ps[t / 2] = q at h0 h1
  rcases (by omega : t = t / 2 * 2 ∨ t = t / 2 * 2 + 1) with e | e
  · have hm : t % 2 = 0 := by omega
    rw [hm]
    rw [← e, List.getElem?_eq_getElem hl] at h0
    rw [Option.some.inj h0]; rfl
  · have hm : t % 2 = 1 := by omega
    rw [hm]
    rw [← e, List.getElem?_eq_getElem hl] at h1
    rw [Option.some.inj h1]; rfl
section
variable {w : World} {g : Nat} {cur : Array Value} {e : TypeId} {F : List Value}
theorem holds_flat (hb : w.heap[g]? = some (.cells cur e (0, 0))) (ht : cur.toList.take F.length = F) : Holds id w g 0 F.toArray := by
  intro j hj
  have hj' : j < F.length := by simpa using hj
  have h1 : (cur.toList.take F.length)[j]? = F[j]? := by rw [ht]
  rw [List.getElem?_take_of_lt hj'] at h1
  rw [Nat.zero_add]
  refine ⟨?_, frozen_of_row _ _ _ _ _ hb⟩
  rw [cell_of_row _ _ _ _ _ _ hb, ← Array.getElem?_toList, h1]
  simp [hj']
theorem heap_flat {n : Nat} {os : Array Obj} (G : Array Value) (hb : w.heap[g]? = some (.cells cur e (0, 0))) : (grow (putRow id (Sort.ahead w n) g 0 G) os).heap[g]? = some (.cells (putCells id 0 G cur) e (0, 0)) := by
  have hg : g < w.heap.size := (Array.getElem?_eq_some_iff.1 hb).1
  rw [heap_grow_old _ _ (by simpa using hg)]
  simp [putRow, mapBlock, Sort.ahead, Array.getElem?_modify, hb, onCells]
theorem chg_flat {n : Nat} {os : Array Obj} (G : Array Value) : Chg (fun i => some g = some i) w (grow (putRow id (Sort.ahead w n) g 0 G) os) := by
  refine ⟨rfl, rfl, rfl, by simp, fun k hk hne => ?_⟩
  rw [heap_grow_old _ _ (by simpa using hk)]
  have : g ≠ k := fun e => hne (by rw [e])
  simp [putRow, mapBlock, Sort.ahead, Array.getElem?_modify, this]
theorem take_flat (F : List Value) (h : F.length ≤ cur.size) : (putCells id 0 F.toArray cur).toList.take F.length = F := by
  apply List.ext_getElem?
  intro j
  by_cases hj : j < F.length
  · rw [List.getElem?_take_of_lt hj, Array.getElem?_toList]
    simp [putCells, hj, show j < cur.size by omega]
  · rw [List.getElem?_take_eq_none (by omega), List.getElem?_eq_none (by omega)]
end

/-! ### what the closure says -/
def cmpP (x y : Int × ByteArray) : Int := Lib.compareInt x.1 y.1
theorem ltP (x y : Int × ByteArray) : ltOf cmpP x y = decide (x.1 < y.1) := by
  unfold ltOf cmpP Lib.compareInt
  by_cases h1 : x.1 < y.1
  · simp [h1]
  · by_cases h2 : y.1 < x.1 <;> simp [h1, h2]
theorem swoP : SWO (ltOf cmpP) where
  irrefl x := by rw [ltP]; simp
  trans x y z h1 h2 := by rw [ltP] at *; simp at *; omega
  ntrans x y z h1 h2 := by rw [ltP] at *; simp at *; omega

set_option maxHeartbeats 1000000 in
theorem thenCmp_any (x y : Int × ByteArray) (W : World) : Calls Try.prog 17 #[.agg #[.int .i64 x.1, .string x.2], .agg #[.int .i64 y.1, .string y.2]] W fun e w' => e = .returned (.int .i64 (cmpP x y)) ∧ ∃ q os', w' = grow (W.drewN q) os' := by
  have hcon := fun W' => AnyG.cmp_Compare_int cmpInt x.1 y.1 W'
  change ∀ W', Calls Try.prog 18 _ _ _ at hcon
  have HC : Hid (cmpP x y = Lib.compareInt x.1 y.1) := Lib.hid rfl
  generalize Lib.compareInt x.1 y.1 = r at hcon HC
  rw [HC.out]
  go_enter Try.func17, Try.ntmps17
  go_wp2_with fail
  refine (hcon _).mono ?_
  rintro e w' ⟨rfl, rfl⟩
  go_wp2_with fail
  go_ret
  exact ⟨rfl, 0, _, by rw [alloc_eq_grow, alloc_eq_grow, grow_grow]; rfl⟩

set_option maxHeartbeats 1000000 in
theorem sortPuts_any (w : World) (A : Option Addr) (c : Nat) (ps : List (Int × ByteArray)) (h : URow w A c ps) (hl : ps.length ≤ 100000) :
    Calls Try.prog 16 #[.slice A ps.length c, .func (.func 17) #[] #[]] w fun e w' =>
      e = .returned (.tuple #[]) ∧ ∃ qs : List (Int × ByteArray), qs.Perm ps ∧ qs.Pairwise (fun p q => ¬ q.1 < p.1) ∧ URow w' A c qs ∧ Chg (fun i => blk A = some i) w w' := by
  have eg : ∀ args w, (callFunc 17 args).run Try.prog w = .ok (.enter 17 args) w := enters_of Try.func17 (by kernel_rfl) rfl
  rcases h.2 with ⟨hn, h0⟩ | ⟨g, cap, cur, hv, _, hb, hnc, hcm, hsz, htk⟩
  · injection hn with h1 _ h2
    subst h1 h2
    obtain rfl : ps = [] := List.eq_nil_of_length_eq_zero h0
    have hcon := AnyF.slices_SortFunc_none sortPut none 0 (.func (.func 17) #[] #[]) w
    change Calls Try.prog 16 _ _ _ at hcon
    refine hcon.mono ?_
    rintro e w' ⟨rfl, rfl⟩
    exact ⟨rfl, [], List.Perm.refl _, List.Pairwise.nil, h, Chg.refl _ _⟩
  · injection hv with h1 _ h2
    subst h1 h2
    have hlk : (pks ps).length = ps.length * 2 := pks_length ps
    have hcon := AnyQ.slices_SortFunc sortPut 2 Try.isAgg35 Try.sizeOf35 pk (fun _ => rfl) (fun x v hv => by simp [pk] at hv; rcases hv with rfl | rfl <;> rfl) cmpP swoP 17 #[] g 0 c ps.toArray w eg
      (fun _ _ _ _ x y => thenCmp_any x y _) (by unfold HoldsK; rw [flat_pks]; exact holds_flat hb (by rw [hlk]; exact htk)) (Array.getElem?_eq_some_iff.1 hb).1 (by simp; omega)
    change Calls Try.prog 16 _ _ _ at hcon
    refine hcon.mono ?_
    rintro e w' ⟨rfl, d', n, os, hp, hs, rfl⟩
    obtain ⟨p1, _, p3⟩ := hp
    have hsz2 : d'.size = ps.length := by simpa using p1
    have hperm : d'.toList.Perm ps := by have h3 := p3; rw [show ps.toArray.size = d'.size by simp [hsz2]] at h3; simp at h3; rwa [hsz2, List.take_length] at h3
    have hln : d'.toList.length = ps.length := hperm.length_eq
    refine ⟨rfl, d'.toList, hperm, ?_, ?_, ?_⟩
    · rw [List.pairwise_iff_getElem]
      intro i j hi hj hij
      have := hs i j (Nat.zero_le _) hij (by simp at hj ⊢; omega)
      rw [ltP, getElem!_pos d' j (by simpa using hj), getElem!_pos d' i (by simpa using hi)] at this
      simpa using this
    · unfold URow
      have hfl : flatK pk 2 d' = (pks d'.toList).toArray := by have := flat_pks d'.toList; simpa using this
      unfold sortWorldK putRowK
      rw [hfl, hln]
      refine ⟨by rw [pks_length, hln], .inr ⟨g, c, _, rfl, Nat.zero_le _, heap_flat _ hb, hnc, hcm, by simp [putCells, hsz], ?_⟩⟩
      have hl3 : (pks d'.toList).length = ps.length * 2 := by rw [pks_length, hln]
      rw [← hl3]
      exact take_flat _ (by rw [hl3, hsz]; exact Nat.mul_le_mul_right _ hnc)
    · exact chg_flat _
end Go.Proofs.Ytjlecfckcciagaa
