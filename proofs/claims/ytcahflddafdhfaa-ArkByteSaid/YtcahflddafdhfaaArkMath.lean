/- The plain law of arks: an image as bytes is read back; bytes of which one is another one are none. -/
import Derived.Test.YtcahflddafdhfaaArk8
import Derived.Test.YtcahflddafdhfaaCrcMath
open Go.RowKit
namespace Go.Proofs.Ytcahflddafdhfaa

theorem lead_take (x : ByteArray) (l : List ByteArray) : l.take (lead x l) = List.replicate (lead x l) x := by
  refine List.eq_replicate_iff.2 ⟨by rw [List.length_take]; exact Nat.min_eq_left (lead_le x l), fun b hb => ?_⟩
  obtain ⟨k, hk⟩ := List.mem_iff_getElem?.1 hb
  rw [List.getElem?_take] at hk
  split at hk
  · rename_i h
    rw [lead_get x l k h] at hk
    exact (Option.some.inj hk).symm
  · cases hk
def flatR (rs : List (ByteArray × Nat)) : List ByteArray := rs.flatMap fun x => List.replicate x.2 x.1
theorem runs_flat : ∀ l : List ByteArray, flatR (runsOf l) = l := by
  have key : ∀ (n : Nat) (l : List ByteArray), l.length ≤ n → flatR (runsOf l) = l := by
    intro n
    induction n with
    | zero =>
      intro l h
      have h0 : l = [] := List.eq_nil_of_length_eq_zero (by omega)
      subst h0
      rw [runsOf_nil]
      rfl
    | succ n ih =>
      intro l h
      cases l with
      | nil => rw [runsOf_nil]; rfl
      | cons x l =>
        rw [List.length_cons] at h
        rw [runsOf_cons]
        show List.replicate (lead x l + 1) x ++ flatR (runsOf (l.drop (lead x l))) = x :: l
        rw [ih (l.drop (lead x l)) (by rw [List.length_drop]; omega), List.replicate_succ, ← lead_take, List.cons_append, List.take_append_drop]
  exact fun l => key l.length l (Nat.le_refl _)
theorem be_one (n : Nat) (h : n < 256) : ∃ b : UInt8, be 1 n = [b] ∧ b.toNat = n := by
  refine ⟨UInt8.ofNat (n / 256 ^ 0 % 256), by rw [be_succ, be_zero], ?_⟩
  rw [Nat.pow_zero, Nat.div_one, Nat.mod_eq_of_lt h]
  exact UInt8.toNat_ofNat_of_lt' h
theorem unImg_runs (rs : List (ByteArray × Nat)) (h : ∀ x ∈ rs, x.1.size = 64 ∧ x.2 < 256) : unImg (runBytes rs) = flatR rs := by
  induction rs with
  | nil => exact unImg_end (by simp [runBytes])
  | cons a rs ih =>
    have hi := ih (fun x hx => h x (List.mem_cons_of_mem _ hx))
    obtain ⟨h1, h2⟩ := h a (List.mem_cons_self ..)
    obtain ⟨b, hb, hbn⟩ := be_one a.2 h2
    have hl : (bl a.1).length = 64 := by rw [bl_length]; exact h1
    have e : runBytes (a :: rs) = b :: (bl a.1 ++ runBytes rs) := by
      show (be 1 a.2 ++ bl a.1) ++ runBytes rs = _
      rw [hb]; rfl
    have h65 : 65 ≤ (runBytes (a :: rs)).length := by rw [e, List.length_cons, List.length_append, hl]; omega
    have e0 : (runBytes (a :: rs))[0] = b := by simp only [e]; rfl
    have e1 : ((runBytes (a :: rs)).drop 1).take 64 = bl a.1 := by rw [e, List.drop_succ_cons, List.drop_zero, List.take_left' hl]
    have e2 : (runBytes (a :: rs)).drop 65 = runBytes rs := by rw [e, List.drop_succ_cons, List.drop_left' hl]
    rw [unImg_step h65, e0, e1, e2, hi, mk_bl, hbn]
    rfl
theorem arkBody_len (l : List ByteArray) : 6 ≤ (arkBody l).length := by
  unfold arkBody
  rw [List.length_append, List.length_append, be_length]
  show 6 ≤ 4 + 2 + _
  omega
theorem packL_ok {l : List ByteArray} (h : packE l = 0) : packL l = arkBody l ++ be 4 (crcAdd 0 (arkBody l)) := by unfold packL; rw [if_pos h]
/-- What is packed is unpacked as it was. -/
theorem unE_pack {l : List ByteArray} (h : packE l = 0) : unE (packL l) = 0 ∧ unX (packL l) = l := by
  have h6 := arkBody_len l
  obtain ⟨hp1, hp2⟩ := pack_parts h
  have hP := packL_ok h
  have hPl : (packL l).length = (arkBody l).length + 4 := by rw [hP, List.length_append, be_length]
  have hc := crcAdd_lt 0 (arkBody l)
  have hs : gNum (packL l) ((packL l).length - 4 : Nat) 4 = crcAdd 0 ((packL l).take ((packL l).length - 4)) := by
    rw [show (packL l).length - 4 = (arkBody l).length by omega, gNum_ok (gErr_ok (by omega) (by omega)), Int.toNat_natCast, hP, List.drop_left' rfl, List.take_left' rfl,
      List.take_of_length_le (by rw [be_length]; decide), beNum_be]
    exact Nat.mod_eq_of_lt (by rw [show (256 : Nat) ^ 4 = 4294967296 from rfl]; omega)
  have hu : unI (packL l) = l := by
    unfold unI
    rw [show (packL l).length - 4 - 6 = (arkBody l).length - 6 by omega, ← List.drop_take, hP, List.take_left' rfl]
    have e : (arkBody l).drop 6 = runBytes (runsOf l) := by
      unfold arkBody
      rw [List.drop_left']
      rw [List.length_append, be_length]
      rfl
    rw [e, unImg_runs _ (fun x hx => by
      obtain ⟨h1, h2, h3⟩ := runsOf_mem l x hx
      exact ⟨oddB_no hp2 _ h1, by omega⟩), runs_flat]
  obtain ⟨h7, h8⟩ := unE_4 (l := packL l) (by omega) hs (by rw [hu]; exact h) (by rw [hu])
  exact ⟨h7, by rw [h8, hu]⟩
/-- One byte that is another one. -/
theorem unE_set {l : List ByteArray} (h : packE l = 0) {k : Nat} (hk : k < (packL l).length) (b : UInt8) (hb : (packL l)[k] ≠ b) : unE ((packL l).set k b) = 9 := by
  have h6 := arkBody_len l
  have hP := packL_ok h
  have hPl : (packL l).length = (arkBody l).length + 4 := by rw [hP, List.length_append, be_length]
  have hc := crcAdd_lt 0 (arkBody l)
  refine (unE_2 (by rw [List.length_set]; omega) fun s2 => ?_).1
  rw [List.length_set, show (packL l).length - 4 = (arkBody l).length by omega] at s2
  have s1 : gNum (packL l) ((arkBody l).length : Nat) 4 = crcAdd 0 ((packL l).take (arkBody l).length) := by
    rw [gNum_ok (gErr_ok (by omega) (by omega)), Int.toNat_natCast, hP, List.drop_left' rfl, List.take_left' rfl, List.take_of_length_le (by rw [be_length]; decide), beNum_be]
    exact Nat.mod_eq_of_lt (by rw [show (256 : Nat) ^ 4 = 4294967296 from rfl]; omega)
  generalize (arkBody l).length = N at s1 s2 hPl h6
  generalize packL l = P at *
  have hi : (N : Int).toNat = N := Int.toNat_natCast N
  rw [gNum_ok (gErr_ok (by omega) (by omega)), hi] at s1
  rw [gNum_ok (gErr_ok (by omega) (by rw [List.length_set]; omega)), hi] at s2
  by_cases hkN : k < N
  · have e3 : (P.set k b).drop N = P.drop N := by rw [List.drop_set_of_lt hkN]
    rw [e3, s1, List.take_set] at s2
    exact crc_set_ne (P.take N) k (by rw [List.length_take]; omega) b (by rw [List.getElem_take]; exact hb) 0 s2.symm
  · have e3 : (P.set k b).take N = P.take N := by rw [List.take_set, List.set_eq_of_length_le (by rw [List.length_take]; omega)]
    rw [e3, ← s1] at s2
    have l1 : ((P.drop N).take (Int.toNat 4)).length = 4 := by rw [List.length_take, List.length_drop, hPl]; show min 4 _ = 4; omega
    have l2 : (((P.set k b).drop N).take (Int.toNat 4)).length = 4 := by rw [List.length_take, List.length_drop, List.length_set, hPl]; show min 4 _ = 4; omega
    have e4 := congrArg (be 4) s2
    rw [be_beNum 4 _ l1, be_beNum 4 _ l2] at e4
    have e5 := congrArg (fun l => l[k - N]?) e4
    simp only [List.getElem?_take, List.getElem?_drop, List.getElem?_set] at e5
    have h4 : k - N < Int.toNat 4 := by show k - N < 4; omega
    have e6 : N + (k - N) = k := by omega
    rw [e6] at e5
    simp only [if_pos h4, if_true, hk, List.getElem?_eq_getElem] at e5
    exact hb (Option.some.inj e5).symm
/-- What is unpacked is packed as it was. -/
theorem pack_unX {l : List UInt8} (h : unE l = 0) : packE (unX l) = 0 ∧ packL (unX l) = l := by
  have e : unX l = unI l := by unfold unX; rw [if_pos h]
  rw [e]
  unfold unE at h
  split at h
  · cases h
  · split at h
    · cases h
    · split at h
      · cases h
      · rename_i h3
        exact ⟨Decidable.byContradiction fun h4 => h3 (.inl h4), Decidable.byContradiction fun h4 => h3 (.inr h4)⟩
theorem unX_len (l : List UInt8) : (unX l).length ≤ 4 * l.length := by
  unfold unX
  split
  · exact Nat.le_trans (unImg_length _) (by rw [List.length_take, List.length_drop]; omega)
  · exact Nat.zero_le _
/-! ### the fixed image -/
def fillS (c : UInt8) : ByteArray := ⟨(List.replicate 64 c).toArray⟩
def kI : List ByteArray := [fillS 0, fillS 0, fillS 1]
theorem fill_size (c : UInt8) : (fillS c).size = 64 := by show (List.replicate 64 c).toArray.size = 64; simp
theorem fill01 : fillS 0 ≠ fillS 1 := by decide +kernel
theorem kI_runs : runsOf kI = [(fillS 0, 2), (fillS 1, 1)] := by
  have h1 := runsOf_step (l := kI) (n := 2) (by decide) (by decide) (by decide) (fun j hj => by
    match j, hj with
    | 0, _ => rfl
    | 1, _ => rfl) (by show some (fillS 1) ≠ some (fillS 0); exact fun e => fill01 (Option.some.inj e).symm)
  have h2 := runsOf_step (l := [fillS 1]) (n := 1) (by decide) (by decide) (by decide) (fun j hj => by
    match j, hj with
    | 0, _ => rfl) (by show (none : Option ByteArray) ≠ _; intro e; cases e)
  rw [h1, show kI.drop 2 = [fillS 1] from rfl, h2, show [fillS 1].drop 1 = [] from rfl, runsOf_nil]
  rfl
theorem kI_odd : oddB kI = false := by
  rw [Bool.eq_false_iff]
  intro h
  obtain ⟨s, hs, h2⟩ := List.any_eq_true.1 h
  have hz : s.size = 64 := by
    unfold kI at hs
    simp only [List.mem_cons, List.not_mem_nil, or_false] at hs
    rcases hs with rfl | rfl | rfl <;> exact fill_size _
  unfold rightS at h2
  rw [decide_eq_true hz] at h2
  cases h2
theorem kI_pack : packE kI = 0 ∧ (packL kI).length = 140 := by
  have h : packE kI = 0 := by
    unfold packE
    rw [if_neg (by decide), kI_odd]
    rfl
  refine ⟨h, ?_⟩
  rw [packL_ok h]
  unfold arkBody
  rw [kI_runs]
  have e : runBytes [(fillS 0, 2), (fillS 1, 1)] = (be 1 2 ++ bl (fillS 0)) ++ ((be 1 1 ++ bl (fillS 1)) ++ []) := rfl
  rw [e]
  simp only [List.length_append, be_length, bl_length, fill_size]
  rfl
theorem nil_pack : packE [] = 0 ∧ (packL []).length = 10 := by
  refine ⟨rfl, ?_⟩
  rw [packL_ok rfl]
  unfold arkBody
  rw [runsOf_nil]
  simp only [List.length_append, be_length]
  rfl
end Go.Proofs.Ytcahflddafdhfaa
