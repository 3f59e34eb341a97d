/- The plain laws of what images differ in. -/
import Derived.Test.YtjlecfckcciagaaDel7
open Go.RowKit
namespace Go.Proofs.Ytjlecfckcciagaa

theorem oddB_false {l : List ByteArray} (h : ¬ oddB l = true) : ∀ s ∈ l, rightS s = true := by
  intro s hs
  cases h1 : rightS s with
  | true => rfl
  | false => exact absurd (List.any_eq_true.2 ⟨s, hs, by rw [h1]; rfl⟩) h
theorem diffs_right : ∀ (ls bs : List ByteArray) (i : Nat) (z : Int), z < i → i + bs.length ≤ 128 → (∀ s ∈ bs, rightS s = true) → rightFrom z (diffs i ls bs) = true
  | [], bs, i, z, _, _, _ => by cases bs <;> rfl
  | a :: ls, [], i, z, _, _, _ => rfl
  | a :: ls, b :: bs, i, z, hz, hi, hr => by
    simp only [List.length_cons] at hi
    by_cases h : a = b
    · subst h
      rw [diffs_same]
      exact diffs_right ls bs (i + 1) z (by push_cast; omega) (by omega) (fun s hs => hr s (List.mem_cons_of_mem _ hs))
    · rw [diffs_other h, rightFrom_step (by omega) (by omega) (hr b List.mem_cons_self)]
      exact diffs_right ls bs (i + 1) i (by push_cast; omega) (by omega) (fun s hs => hr s (List.mem_cons_of_mem _ hs))
theorem diffs_in : ∀ (ls bs : List ByteArray) (i : Nat), ∀ p ∈ diffs i ls bs, p.1 < ((i + bs.length : Nat) : Int)
  | [], bs, i, p, hp => by cases bs <;> simp [diffs] at hp
  | a :: ls, [], i, p, hp => by simp [diffs] at hp
  | a :: ls, b :: bs, i, p, hp => by
    by_cases h : a = b
    · subst h
      rw [diffs_same] at hp
      have := diffs_in ls bs (i + 1) p hp
      simp only [List.length_cons]; push_cast at this ⊢; omega
    · rw [diffs_other h] at hp
      rcases List.mem_cons.1 hp with rfl | hp
      · simp only [List.length_cons]; push_cast; omega
      · have := diffs_in ls bs (i + 1) p hp
        simp only [List.length_cons]; push_cast at this ⊢; omega
theorem diffs_apply : ∀ (ls bs P : List ByteArray), ls.length = bs.length → applyL (P ++ ls) (diffs P.length ls bs) = P ++ bs
  | [], bs, P, h => by
    have : bs = [] := List.eq_nil_of_length_eq_zero (by simpa using h.symm)
    subst this; rfl
  | a :: ls, [], P, h => by simp at h
  | a :: ls, b :: bs, P, h => by
    have hl : ls.length = bs.length := by simpa using h
    have hP : (P ++ [b]).length = P.length + 1 := by simp
    have key := diffs_apply ls bs (P ++ [b]) hl
    rw [hP] at key
    by_cases hab : a = b
    · subst hab
      rw [diffs_same]
      simpa using key
    · rw [diffs_other hab, applyL_cons, Int.toNat_natCast]
      have : (P ++ a :: ls).set P.length b = (P ++ [b]) ++ ls := by simp
      rw [this, key]; simp
/-- What 'Make' yields can be, can be written, and makes the other one. -/
theorem make_law {was now : List ByteArray} (h : makeE was now = 0) : rightP (makeL was now) = true ∧ mayE was.length (makeL was now) = 0 ∧ applyR was (makeL was now) = now := by
  have h1 : ¬ (was.length ≠ now.length ∨ 128 < was.length) := fun hc => by rw [(makeE_long hc).1] at h; cases h
  have h2 : ¬ (oddB was = true ∨ oddB now = true) := fun hc => by rw [(makeE_odd h1 hc).1] at h; cases h
  have hl : was.length = now.length := by omega
  rw [(makeE_ok h1 h2).2]
  have hr : rightP (diffs 0 was now) = true := diffs_right was now 0 (-1) (by omega) (by omega) (oddB_false (fun hc => h2 (.inr hc)))
  have hm : mayE was.length (diffs 0 was now) = 0 := mayE_ok hr (fun p hp => by have := diffs_in was now 0 p hp; rw [hl]; simpa using this)
  refine ⟨hr, hm, ?_⟩
  rw [applyR_ok hm]
  exact diffs_apply was now [] hl

theorem apply_get : ∀ (l : List (Int × ByteArray)) (m : List ByteArray) (j : Nat), (∀ p ∈ l, p.1.toNat ≠ j) → (applyL m l)[j]? = m[j]?
  | [], m, j, _ => rfl
  | p :: l, m, j, h => by
    rw [applyL_cons, apply_get l _ j (fun q hq => h q (List.mem_cons_of_mem _ hq)), List.getElem?_set_ne (h p List.mem_cons_self)]
theorem undo_apply : ∀ (l : List (Int × ByteArray)) (m m' : List ByteArray), m'.length = m.length → (∀ p ∈ l, 0 ≤ p.1 ∧ p.1 < (m.length : Int)) → (∀ j, (∀ p ∈ l, p.1.toNat ≠ j) → m'[j]? = m[j]?) → applyL m' (undoL m l) = m
  | [], m, m', _, _, h => List.ext_getElem? fun j => h j (by intro p hp; simp at hp)
  | (x, s) :: l, m, m', hl, hr, h => by
    obtain ⟨h0, h1⟩ := hr (x, s) List.mem_cons_self
    simp only at h0 h1
    obtain ⟨n, rfl⟩ := Int.eq_ofNat_of_zero_le h0
    have hn : n < m.length := by omega
    rw [undoL_cons m n s l hn, applyL_cons]
    simp only [Int.toNat_natCast]
    refine undo_apply l m _ (by rw [List.length_set]; exact hl) (fun p hp => hr p (List.mem_cons_of_mem _ hp)) fun j hj => ?_
    by_cases hjn : n = j
    · subst hjn
      rw [List.getElem?_set_self (by omega), List.getElem?_eq_getElem hn]
    · rw [List.getElem?_set_ne hjn]
      refine h j fun p hp => ?_
      rcases List.mem_cons.1 hp with rfl | hp
      · simpa using hjn
      · exact hj p hp
theorem undo_right : ∀ (l : List (Int × ByteArray)) (m : List ByteArray) (z : Int), (∀ s ∈ m, rightS s = true) → (∀ p ∈ l, 0 ≤ p.1 ∧ p.1 < (m.length : Int)) → rightFrom z l = true → rightFrom z (undoL m l) = true
  | [], m, z, _, _, _ => rfl
  | (x, s) :: l, m, z, hs, hr, h => by
    obtain ⟨h0, h1⟩ := hr (x, s) List.mem_cons_self
    simp only at h0 h1
    obtain ⟨n, rfl⟩ := Int.eq_ofNat_of_zero_le h0
    have hn : n < m.length := by omega
    rw [undoL_cons m n s l hn]
    have h2 := rightFrom_all h ((n : Int), s) List.mem_cons_self
    simp only at h2
    rw [rightFrom_step (by omega) (by omega) h2.2.2] at h
    rw [rightFrom_step (by omega) (by omega) (hs _ (List.getElem_mem hn))]
    exact undo_right l m n hs (fun p hp => hr p (List.mem_cons_of_mem _ hp)) h
theorem undo_mem {l : List (Int × ByteArray)} {m : List ByteArray} {p : Int × ByteArray} (h : p ∈ undoL m l) : ∃ q ∈ l, p.1 = q.1 := by
  unfold undoL at h
  obtain ⟨q, hq, rfl⟩ := List.mem_map.1 h
  exact ⟨q, hq, rfl⟩
/-- Taken back it is the image. -/
theorem undo_law {m : List ByteArray} {l : List (Int × ByteArray)} (h : mayE m.length l = 0) (hs : ∀ s ∈ m, rightS s = true) : mayE (applyR m l).length (undoR m l) = 0 ∧ applyR (applyR m l) (undoR m l) = m := by
  obtain ⟨h1, h2⟩ := mayE_zero h
  rw [applyR_ok h, undoR_ok h]
  have hl : (applyL m l).length = m.length := applyL_length l m
  have h3 : mayE (applyL m l).length (undoL m l) = 0 := by
    rw [hl]
    refine mayE_ok (undo_right l m (-1) hs h2 h1) fun p hp => ?_
    obtain ⟨q, hq, e⟩ := undo_mem hp
    rw [e]; exact (h2 q hq).2
  refine ⟨h3, ?_⟩
  rw [applyR_ok h3]
  exact undo_apply l m _ hl h2 fun j hj => apply_get l m j hj
end Go.Proofs.Ytjlecfckcciagaa
