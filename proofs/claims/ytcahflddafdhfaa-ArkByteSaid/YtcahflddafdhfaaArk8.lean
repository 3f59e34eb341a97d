/- Arks: the reference's image of bytes. -/
import Derived.Test.YtcahflddafdhfaaArk7
import Derived.Test.YtcahflddafdhfaaFrMath
import Derived.Test.YtcahflddafdhfaaTexts
open Go.RowKit
namespace Go.Proofs.Ytcahflddafdhfaa

theorem sum_be {l : List UInt8} {n : Nat} (h : l.length = n + 4) {C : Nat} (hC : C < 4294967296) : gNum l (n : Nat) 4 = C ↔ txt 4 C = ⟨(l.drop n).toArray⟩ := by
  have hl : (l.drop n).length = 4 := by rw [List.length_drop]; omega
  rw [gNum_ok (gErr_ok (by omega) (by omega)), Int.toNat_natCast, List.take_of_length_le (by rw [hl]; decide)]
  constructor
  · intro e
    refine bl_inj ?_
    rw [tb4, bl_mk, ← e, be_beNum 4 _ hl]
  · intro e
    have e2 := congrArg bl e
    rw [tb4, bl_mk] at e2
    rw [← e2, beNum_be]
    exact Nat.mod_eq_of_lt hC
theorem pack_take {L : List ByteArray} (h : packE (L.take 129) = 0) : L.take 129 = L := by
  have h1 := (pack_parts h).1
  rw [List.length_take] at h1
  exact List.take_of_length_le (by omega)
theorem pack_take_ne {L : List ByteArray} (h : packE (L.take 129) ≠ 0) : packE L ≠ 0 := by
  by_cases h1 : L.length ≤ 129
  · rwa [List.take_of_length_le h1] at h
  · unfold packE
    rw [if_pos (by omega)]
    decide
theorem take_enough {α : Type} {X : List α} (Y : List α) (h : 128 < (X.take 129).length) : (X ++ Y).take 129 = X.take 129 := by
  rw [List.length_take] at h
  rw [List.take_append_of_le_length (by omega)]
theorem take_more {X : List ByteArray} {T : ByteArray} {out : List ByteArray} (h : out = X.take 129) (hl : out.length ≤ 128) : out ++ [T] = (X ++ [T]).take 129 := by
  subst h
  rw [List.length_take] at hl
  have h2 : X.length ≤ 128 := by omega
  rw [List.take_of_length_le (by omega), List.take_of_length_le (by rw [List.length_append, List.length_singleton]; omega)]
theorem run_at {l : List UInt8} {n p : Nat} (hn : n ≤ l.length) (hp : p + 65 ≤ n) : unImg ((l.take n).drop p) = List.replicate (l[p]'(by omega)).toNat ⟨((l.drop (p + 1)).take 64).toArray⟩ ++ unImg ((l.take n).drop (p + 65)) := by
  have h1 : 65 ≤ ((l.take n).drop p).length := by rw [List.length_drop, List.length_take]; omega
  rw [unImg_step h1]
  have e1 : ((l.take n).drop p)[0] = l[p]'(by omega) := by simp
  have e2 : (((l.take n).drop p).drop 1).take 64 = (l.drop (p + 1)).take 64 := by
    rw [List.drop_drop, List.drop_take, List.take_take, Nat.min_eq_left (by omega)]
  rw [e1, e2, List.drop_drop]
theorem run_end {l : List UInt8} {n p : Nat} (hn : n ≤ l.length) (hp : ¬ p + 65 ≤ n) : unImg ((l.take n).drop p) = [] := unImg_end (by rw [List.length_drop, List.length_take]; omega)
theorem unI_eq {l : List UInt8} {n : Nat} (h : l.length = n + 4) : unImg ((l.take n).drop 6) = unI l := by
  unfold unI
  rw [List.drop_take, show l.length - 4 - 6 = n - 6 by omega]
theorem TxtOut.to {w W W' : World} {A : Option Addr} {c : Nat} {l : List ByteArray} (h : TxtOut w W A c l) {A1 : Option Addr} {c1 : Nat} {n : List ByteArray} (hr : SRow W' A1 c1 n) (hc : Chg (fun i => blk A = some i) W W') (hk : ∀ k, blk A1 = some k → blk A = some k ∨ k = W.heap.size) : TxtOut w W' A1 c1 n :=
  ⟨hr, fun k hk2 => by rcases hk k hk2 with h2 | h2; exact h.2.1 k h2; have := h.2.2.size; omega, h.2.2.trans (hc.below (fun i hi e => by have := h.2.1 i e; omega) h.2.2.size)⟩
set_option maxHeartbeats 4000000 in
set_option maxRecDepth 100000 in
theorem refArkUnpack_any (A0 : Option Addr) (l : List UInt8) (c0 : Nat) (w : World) (hr : Reads w 1 A0 l.length (bv l)) (hc : l.length ≤ c0) (hl : l.length ≤ 10000) :
    Calls Try.prog 17 #[.slice A0 l.length c0] w fun e w' => ∃ A1 c1, e = .returned (.tuple #[.slice A1 (unX l).length c1, .int .i64 (unE l : Nat)]) ∧ TxtOut w w' A1 c1 (unX l) := by
  have Hr := Lib.hid hr
  have Hc := Lib.hid hc
  have Hl := Lib.hid hl
  clear hr hc
  by_cases h1 : l.length < 10
  · have HE := Lib.hid (unE_1 h1)
    go_enter Try.func17, Try.ntmps17
    go_wp2_with fail
    go_ret2
    exact ⟨none, 0, by rw [HE.out.1, HE.out.2]; rfl, by rw [HE.out.2]; exact TxtOut.nil (Below.refl _ _)⟩
  obtain ⟨n, hn⟩ : ∃ n, l.length = n + 4 := ⟨l.length - 4, by omega⟩
  have hsub : (l.length : Int) - 4 = (n : Int) := by omega
  obtain ⟨hcut, hcr⟩ := cutB_to A0 c0 l n (by omega) Hc.out
  obtain ⟨A4, hcf, hcfr⟩ := cutB_from A0 c0 l n (by omega) Hc.out
  have hl4 : (l.drop n).length = 4 := by rw [List.length_drop]; omega
  have e4 : l.length - n = 4 := by omega
  rw [e4] at hcf
  have hlt4 : (l.take n).length = n := by rw [List.length_take]; omega
  have HC := Lib.hid (fun w' h => refSum_any A0 (l.take n) c0 w' (hcr w' h) (by rw [hlt4]; unfold maxLen; omega))
  rw [hlt4] at HC
  have HRf := Lib.hid (fun w' h => run_string_of_bytes (w := w') (c0 - n) (hcfr w' h))
  rw [hl4] at HRf
  have hClt := crcAdd_lt 0 (l.take n)
  obtain ⟨C, hCe⟩ : ∃ C, crcAdd 0 (l.take n) = C := ⟨_, rfl⟩
  obtain ⟨S4, hS4⟩ : ∃ S4 : ByteArray, (⟨(l.drop n).toArray⟩ : ByteArray) = S4 := ⟨_, rfl⟩
  rw [hCe] at HC hClt
  rw [hS4] at HRf
  have HSum := Lib.hid (show gNum l (l.length - 4 : Nat) 4 = crcAdd 0 (l.take (l.length - 4)) ↔ txt 4 C = S4 by
    rw [show l.length - 4 = n by omega, hCe, ← hS4]
    exact sum_be hn hClt)
  have hwC := wrapN (n := C) (by omega)
  have HCl := Lib.hid hClt
  have HI := Lib.hid (unI_eq hn)
  have H1 := Lib.hid h1
  have HNl := Lib.hid hn
  clear hcr hcfr hl4 e4 hlt4 hCe hS4 hClt hn
  go_enter Try.func17, Try.ntmps17
  go_wp2_with fail
  have HB := Lib.hid (show Below w.heap.size w w.drew from ⟨rfl, rfl, rfl, Nat.le_refl _, fun _ _ => rfl⟩)
  have hcs : ∀ w', KeepsBut [] w.drew w' → (convert 25 9 (.slice A4 4 (c0 - n))).run Try.prog w' = .ok (.string S4) w' := fun w' hk => HRf.out w' ((Hr.out.below HB.out).keep fun p u hp => hk.cell hp (by simp))
  by_cases hsc : txt 4 C = S4
  rotate_left
  · have hne : ((txt 4 C).toList == S4.toList) = false := by rw [beq_eq_false_iff_ne]; exact fun e => hsc (str_inj e)
    have HE := Lib.hid (unE_2 H1.out (fun e => hsc (HSum.out.1 e)))
    clear hsc
    refine wp_region_mix3 (KeepsBut []) (KeepsBut.refl []) (KeepsBut.trans []) [] [(0, 0), (0, 1), (0, 2), (0, 6), (0, 7), (0, 8), (1, 9), (2, 3), (1, 4), (2, 5), (0, 10)] (by kernel_rfl) (by kernel_rfl) (fun d _ _ _ _ h => by cases d <;> exact h) ?_
    generalize w.drew = wd at HB hcs ⊢
    repeat (first
      | (refine mix3_free (v := ?_) rfl rfl ?_ (mix3_norm (a' := ?_) ?_ ?_)
         rotate_left
         focus (intro w'; go_simp; first | done | (with_reducible rfl))
         rotate_left
         focus (simp only [Act.put, List.getElem_toArray, List.getElem_cons_zero, List.getElem_cons_succ, List.setIfInBounds_toArray, List.set_cons_zero, List.set_cons_succ]; rfl))
      | (refine mix3_pure (v := ?_) rfl rfl ?_ (mix3_norm (a' := ?_) ?_ ?_)
         rotate_left
         focus (intro w' hR; go_simp; first | done | (with_reducible rfl))
         rotate_left
         focus (simp only [Act.put, List.getElem_toArray, List.getElem_cons_zero, List.getElem_cons_succ, List.setIfInBounds_toArray, List.set_cons_zero, List.set_cons_succ]; rfl))
      | (refine mix3_freeOff rfl rfl (mix3_norm (a' := ?_) ?_ ?_)
         rotate_left
         focus (simp only [Act.put, List.getElem_toArray, List.getElem_cons_zero, List.getElem_cons_succ, List.setIfInBounds_toArray, List.set_cons_zero, List.set_cons_succ]; rfl))
      | (refine mix3_off rfl rfl (mix3_norm (a' := ?_) ?_ ?_)
         rotate_left
         focus (simp only [Act.put, List.getElem_toArray, List.getElem_cons_zero, List.getElem_cons_succ, List.setIfInBounds_toArray, List.set_cons_zero, List.set_cons_succ]; rfl)))
    clear hcs
    refine mix3_eff rfl ?_
    simp only [List.getElem_toArray, List.getElem_cons_zero, List.getElem_cons_succ]
    go_wp2_with fail
    refine (HC.out _ (Hr.out.below HB.out)).mono ?_
    rintro e w' ⟨rfl, rfl⟩
    go_wp2_with fail
    refine mixQ3_normal (KeepsBut.refl _ _) rfl ?_
    repeat (first
      | (refine mix3_free (v := ?_) rfl rfl ?_ (mix3_norm (a' := ?_) ?_ ?_)
         rotate_left
         focus (intro w'; go_simp; first | done | (with_reducible rfl))
         rotate_left
         focus (simp only [Act.put, List.getElem_toArray, List.getElem_cons_zero, List.getElem_cons_succ, List.setIfInBounds_toArray, List.set_cons_zero, List.set_cons_succ]; rfl))
      | (refine mix3_pure (v := ?_) rfl rfl ?_ (mix3_norm (a' := ?_) ?_ ?_)
         rotate_left
         focus (intro w' hR; go_simp; first | done | (with_reducible rfl))
         rotate_left
         focus (simp only [Act.put, List.getElem_toArray, List.getElem_cons_zero, List.getElem_cons_succ, List.setIfInBounds_toArray, List.set_cons_zero, List.set_cons_succ]; rfl))
      | (refine mix3_freeOff rfl rfl (mix3_norm (a' := ?_) ?_ ?_)
         rotate_left
         focus (simp only [Act.put, List.getElem_toArray, List.getElem_cons_zero, List.getElem_cons_succ, List.setIfInBounds_toArray, List.set_cons_zero, List.set_cons_succ]; rfl))
      | (refine mix3_off rfl rfl (mix3_norm (a' := ?_) ?_ ?_)
         rotate_left
         focus (simp only [Act.put, List.getElem_toArray, List.getElem_cons_zero, List.getElem_cons_succ, List.setIfInBounds_toArray, List.set_cons_zero, List.set_cons_succ]; rfl)))
    refine mix3_eff rfl ?_
    simp only [List.getElem_toArray, List.getElem_cons_zero, List.getElem_cons_succ]
    go_wp2_with fail
    refine (text_any 4 C (by have := HCl.out; omega) _).mono ?_
    rintro e w1 ⟨rfl, hb⟩
    have HB := Lib.hid (HB.out.trans (hb.mono HB.out.size))
    go_wp2_with fail
    refine mixQ3_normal (KeepsBut.of_below hb) rfl ?_
    clear hb
    repeat (first
      | (refine mix3_free (v := ?_) rfl rfl ?_ (mix3_norm (a' := ?_) ?_ ?_)
         rotate_left
         focus (intro w'; go_simp; first | done | (with_reducible rfl))
         rotate_left
         focus (simp only [Act.put, List.getElem_toArray, List.getElem_cons_zero, List.getElem_cons_succ, List.setIfInBounds_toArray, List.set_cons_zero, List.set_cons_succ]; rfl))
      | (refine mix3_pure (v := ?_) rfl rfl ?_ (mix3_norm (a' := ?_) ?_ ?_)
         rotate_left
         focus (intro w' hR; go_simp; first | done | (with_reducible rfl))
         rotate_left
         focus (simp only [Act.put, List.getElem_toArray, List.getElem_cons_zero, List.getElem_cons_succ, List.setIfInBounds_toArray, List.set_cons_zero, List.set_cons_succ]; rfl))
      | (refine mix3_freeOff rfl rfl (mix3_norm (a' := ?_) ?_ ?_)
         rotate_left
         focus (simp only [Act.put, List.getElem_toArray, List.getElem_cons_zero, List.getElem_cons_succ, List.setIfInBounds_toArray, List.set_cons_zero, List.set_cons_succ]; rfl))
      | (refine mix3_off rfl rfl (mix3_norm (a' := ?_) ?_ ?_)
         rotate_left
         focus (simp only [Act.put, List.getElem_toArray, List.getElem_cons_zero, List.getElem_cons_succ, List.setIfInBounds_toArray, List.set_cons_zero, List.set_cons_succ]; rfl)))
    refine mix3_done ?_
    go_wp2_with fail
    go_ret2
    exact ⟨none, 0, by rw [HE.out.1, HE.out.2]; rfl, by rw [HE.out.2]; exact TxtOut.nil HB.out⟩
  have HS := Lib.hid (HSum.out.2 hsc)
  clear HSum
  subst hsc
  have hne : ((txt 4 C).toList == (txt 4 C).toList) = true := beq_self_eq_true _
  refine wp_region_mix3 (KeepsBut []) (KeepsBut.refl []) (KeepsBut.trans []) [] [(0, 0), (0, 1), (0, 2), (0, 6), (0, 7), (0, 8), (1, 9), (2, 3), (1, 4), (2, 5), (0, 10)] (by kernel_rfl) (by kernel_rfl) (fun d _ _ _ _ h => by cases d <;> exact h) ?_
  generalize w.drew = wd at HB hcs ⊢
  repeat (first
    | (refine mix3_free (v := ?_) rfl rfl ?_ (mix3_norm (a' := ?_) ?_ ?_)
       rotate_left
       focus (intro w'; go_simp; first | done | (with_reducible rfl))
       rotate_left
       focus (simp only [Act.put, List.getElem_toArray, List.getElem_cons_zero, List.getElem_cons_succ, List.setIfInBounds_toArray, List.set_cons_zero, List.set_cons_succ]; rfl))
    | (refine mix3_pure (v := ?_) rfl rfl ?_ (mix3_norm (a' := ?_) ?_ ?_)
       rotate_left
       focus (intro w' hR; go_simp; first | done | (with_reducible rfl))
       rotate_left
       focus (simp only [Act.put, List.getElem_toArray, List.getElem_cons_zero, List.getElem_cons_succ, List.setIfInBounds_toArray, List.set_cons_zero, List.set_cons_succ]; rfl))
    | (refine mix3_freeOff rfl rfl (mix3_norm (a' := ?_) ?_ ?_)
       rotate_left
       focus (simp only [Act.put, List.getElem_toArray, List.getElem_cons_zero, List.getElem_cons_succ, List.setIfInBounds_toArray, List.set_cons_zero, List.set_cons_succ]; rfl))
    | (refine mix3_off rfl rfl (mix3_norm (a' := ?_) ?_ ?_)
       rotate_left
       focus (simp only [Act.put, List.getElem_toArray, List.getElem_cons_zero, List.getElem_cons_succ, List.setIfInBounds_toArray, List.set_cons_zero, List.set_cons_succ]; rfl)))
  clear hcs
  refine mix3_eff rfl ?_
  simp only [List.getElem_toArray, List.getElem_cons_zero, List.getElem_cons_succ]
  go_wp2_with fail
  refine (HC.out _ (Hr.out.below HB.out)).mono ?_
  rintro e w' ⟨rfl, rfl⟩
  go_wp2_with fail
  refine mixQ3_normal (KeepsBut.refl _ _) rfl ?_
  repeat (first
    | (refine mix3_free (v := ?_) rfl rfl ?_ (mix3_norm (a' := ?_) ?_ ?_)
       rotate_left
       focus (intro w'; go_simp; first | done | (with_reducible rfl))
       rotate_left
       focus (simp only [Act.put, List.getElem_toArray, List.getElem_cons_zero, List.getElem_cons_succ, List.setIfInBounds_toArray, List.set_cons_zero, List.set_cons_succ]; rfl))
    | (refine mix3_pure (v := ?_) rfl rfl ?_ (mix3_norm (a' := ?_) ?_ ?_)
       rotate_left
       focus (intro w' hR; go_simp; first | done | (with_reducible rfl))
       rotate_left
       focus (simp only [Act.put, List.getElem_toArray, List.getElem_cons_zero, List.getElem_cons_succ, List.setIfInBounds_toArray, List.set_cons_zero, List.set_cons_succ]; rfl))
    | (refine mix3_freeOff rfl rfl (mix3_norm (a' := ?_) ?_ ?_)
       rotate_left
       focus (simp only [Act.put, List.getElem_toArray, List.getElem_cons_zero, List.getElem_cons_succ, List.setIfInBounds_toArray, List.set_cons_zero, List.set_cons_succ]; rfl))
    | (refine mix3_off rfl rfl (mix3_norm (a' := ?_) ?_ ?_)
       rotate_left
       focus (simp only [Act.put, List.getElem_toArray, List.getElem_cons_zero, List.getElem_cons_succ, List.setIfInBounds_toArray, List.set_cons_zero, List.set_cons_succ]; rfl)))
  refine mix3_eff rfl ?_
  simp only [List.getElem_toArray, List.getElem_cons_zero, List.getElem_cons_succ]
  go_wp2_with fail
  refine (text_any 4 C (by have := HCl.out; omega) _).mono ?_
  rintro e w1 ⟨rfl, hb⟩
  have HB := Lib.hid (HB.out.trans (hb.mono HB.out.size))
  go_wp2_with fail
  refine mixQ3_normal (KeepsBut.of_below hb) rfl ?_
  clear hb
  repeat (first
    | (refine mix3_free (v := ?_) rfl rfl ?_ (mix3_norm (a' := ?_) ?_ ?_)
       rotate_left
       focus (intro w'; go_simp; first | done | (with_reducible rfl))
       rotate_left
       focus (simp only [Act.put, List.getElem_toArray, List.getElem_cons_zero, List.getElem_cons_succ, List.setIfInBounds_toArray, List.set_cons_zero, List.set_cons_succ]; rfl))
    | (refine mix3_pure (v := ?_) rfl rfl ?_ (mix3_norm (a' := ?_) ?_ ?_)
       rotate_left
       focus (intro w' hR; go_simp; first | done | (with_reducible rfl))
       rotate_left
       focus (simp only [Act.put, List.getElem_toArray, List.getElem_cons_zero, List.getElem_cons_succ, List.setIfInBounds_toArray, List.set_cons_zero, List.set_cons_succ]; rfl))
    | (refine mix3_freeOff rfl rfl (mix3_norm (a' := ?_) ?_ ?_)
       rotate_left
       focus (simp only [Act.put, List.getElem_toArray, List.getElem_cons_zero, List.getElem_cons_succ, List.setIfInBounds_toArray, List.set_cons_zero, List.set_cons_succ]; rfl))
    | (refine mix3_off rfl rfl (mix3_norm (a' := ?_) ?_ ?_)
       rotate_left
       focus (simp only [Act.put, List.getElem_toArray, List.getElem_cons_zero, List.getElem_cons_succ, List.setIfInBounds_toArray, List.set_cons_zero, List.set_cons_succ]; rfl)))
  refine mix3_done ?_
  clear hne hcut hcf HC HRf
  go_wp2_with fail
  clear h1 hsub hwC
  have hn : n + 4 = l.length := HNl.out.symm
  go_loopw [5, 6] (fun o at_ wr => ∃ A c out p, o = .slice A (out : List ByteArray).length c ∧ at_ = .int .i64 (p : Nat) ∧ p ≤ n ∧ Hid (∃ full, full ++ unImg ((l.take n).drop p) = unI l ∧ out = full.take 129) ∧ Hid (TxtOut w wr A c out)) (fun _ at_ _ => n + 65 - (intOf at_).toNat)
  case atStart => exact ⟨none, 0, [], 6, rfl, rfl, by have := H1.out; omega, Lib.hid ⟨[], HI.out, rfl⟩, Lib.hid (TxtOut.nil HB.out)⟩
  case round =>
    obtain ⟨A, c, out, p, rfl, rfl, hpn, HF, HT⟩ := hrel
    by_cases hp : p + 65 ≤ n
    · have HF := Lib.hid (show ∃ full, full ++ (List.replicate (l[p]'(by omega)).toNat ⟨((l.drop (p + 1)).take 64).toArray⟩ ++ unImg ((l.take n).drop (p + 65))) = unI l ∧ out = full.take 129 by
        rw [← run_at (by omega) hp]; exact HF.out)
      have HBy := Lib.hid (fun W (h : Below w.heap.size w W) => byteAt (Hr.out.below h) (k := p) (by omega))
      obtain ⟨A6, hcut, hcr⟩ := cutB_mid A0 c0 l (p + 1) (p + 65) (by omega) (by omega) Hc.out
      have hl6 : ((l.drop (p + 1)).take (p + 65 - (p + 1))).length = 64 := by rw [List.length_take, List.length_drop]; omega
      have e6 : p + 65 - (p + 1) = 64 := by omega
      have HCs := Lib.hid (fun W (h : Below w.heap.size w W) => run_string_of_bytes (c0 - (p + 1)) (hcr W (Hr.out.below h)))
      rw [hl6, e6] at HCs
      rw [e6] at hcut
      have hm256 : (l[p]'(by omega)).toNat < 256 := (l[p]'(by omega)).toNat_lt
      generalize (l[p]'(by omega)).toNat = m at HF HBy hm256
      obtain ⟨T, hT⟩ : ∃ T : ByteArray, (⟨((l.drop (p + 1)).take 64).toArray⟩ : ByteArray) = T := ⟨_, rfl⟩
      rw [hT] at HF HCs
      have hwm := wrapI_nat' (n := m) (by omega)
      have hcut' : ∀ W : World, (Instr.slice 25 (.slice A0 l.length c0) (some (.int .i64 ((p : Int) + 1))) (some (.int .i64 ((p : Int) + 65))) none).run Try.prog W = .ok (.slice A6 64 (c0 - (p + 1))) W := by
        intro W
        have := hcut W
        rw [Int.natCast_add, Int.natCast_add] at this
        exact this
      clear hcr hl6 e6 hT hcut
      obtain ⟨full, hf1, hf2⟩ := HF.out
      have HF1 := Lib.hid hf1
      have HF2 := Lib.hid hf2
      clear hf1 hf2 HF
      go_wp2_with fail
      generalize decide ((p : Int) + 65 ≤ (n : Int)) = b30
      go_loopw [5, 7] (fun o j wr => ∃ A c out k, k ≤ m ∧ o = .slice A (out : List ByteArray).length c ∧ j = .int .i64 (k : Nat) ∧ Hid (out = (full ++ List.replicate k T).take 129) ∧ Hid (TxtOut w wr A c out)) (fun _ j _ => m - (intOf j).toNat)
      case atStart => exact ⟨A, c, out, 0, Nat.zero_le _, rfl, rfl, Lib.hid (by rw [show List.replicate 0 T = [] from rfl, List.append_nil]; exact HF2.out), HT⟩
      case round =>
        obtain ⟨A, c, out, k, hk, rfl, rfl, HO, HT⟩ := hrel
        obtain ⟨ad, rfl, hby⟩ := HBy.out _ HT.out.2.2
        by_cases hlt : k < m
        · by_cases hlo : out.length ≤ 128
          · have HL1 := Lib.hid (show out ++ [T] = (full ++ List.replicate (k + 1) T).take 129 by
              rw [List.replicate_succ', ← List.append_assoc]
              exact take_more HO.out hlo)
            obtain ⟨L1, hL1⟩ : ∃ L1, L1 = out ++ [T] := ⟨_, rfl⟩
            rw [← hL1] at HL1
            have HL := Lib.hid hL1
            have Hlo := Lib.hid hlo
            clear hL1
            have hcs := HCs.out _ HT.out.2.2
            have HBx := Lib.hid (Reads.box wr (.string T) 9)
            have HT6 := Lib.hid (HT.out.keep (alloc1 wr #[.string T] 9).1)
            go_wp2_with (at_builtin; refine append_s1 rfl (.tmp 47) (.tmp 55) rfl A c out rfl HT6.out.1 (some ⟨wr.heap.size, 0, none⟩) 1 T rfl HBx.out (by have := Hlo.out; omega) L1 HL.out ?_)
            intro A1 c1 w9 hr1 hc1 hk1
            have HT7 := Lib.hid (HT6.out.to hr1 hc1 (fun k hk => (hk1 k hk).imp id (fun e => by rw [e]; exact (size_alloc _ _).symm)))
            clear hr1 hc1 hk1 hcs hby HBx
            go_wp2_with fail
            case roundEnd => exact ⟨⟨A1, c1, L1, k + 1, by omega, rfl, by push_cast; rfl, HL1, HT7⟩, by simp only [intOf]; omega⟩
          · have HFin := Lib.hid (show out = (full ++ List.replicate m T).take 129 by
              obtain ⟨d, rfl⟩ : ∃ d, m = k + d := ⟨m - k, by omega⟩
              rw [← List.replicate_append_replicate, ← List.append_assoc, take_enough _ (by rw [← HO.out]; omega)]
              exact HO.out)
            go_wp2_with fail
            case roundEnd =>
              refine ⟨⟨A, c, out, p + 65, rfl, by push_cast; rfl, hp, Lib.hid ⟨full ++ List.replicate m T, by rw [List.append_assoc]; exact HF1.out, HFin.out⟩, HT⟩, by simp only [intOf]; omega⟩
        · have hkm : k = m := by omega
          have HFin := Lib.hid (show out = (full ++ List.replicate m T).take 129 by rw [← hkm]; exact HO.out)
          clear hkm
          go_wp2_with fail
          case roundEnd =>
            refine ⟨⟨A, c, out, p + 65, rfl, by push_cast; rfl, hp, Lib.hid ⟨full ++ List.replicate m T, by rw [List.append_assoc]; exact HF1.out, HFin.out⟩, HT⟩, by simp only [intOf]; omega⟩
    · have HX := Lib.hid (show out = (unI l).take 129 by
        obtain ⟨full, h2, h3⟩ := HF.out
        rw [run_end (by omega) hp, List.append_nil] at h2
        rw [h3, h2])
      have hol : out.length ≤ 129 := by rw [HX.out, List.length_take]; exact Nat.min_le_left _ _
      have HP := Lib.hid (fun W (h : TxtOut w W A c out) => refArkPack_any A out c W h.1.reads (by omega))
      have HQ := Lib.hid (fun W (h : TxtOut w W A c out) => texts12_any A A out out c c W h.1.reads h.1.reads (by omega))
      rw [decide_eq_true rfl] at HQ
      obtain ⟨pe, hpe⟩ : ∃ pe, packE out = pe := ⟨_, rfl⟩
      rw [hpe] at HP
      have HPE := Lib.hid hpe
      clear hpe hol
      go_wp2_with fail
      refine (HP.out _ HT.out).mono ?_
      rintro e w3 ⟨s, rfl, hs, hb⟩
      have HT3 := Lib.hid (HT.out.keep hb)
      have HS3 := Lib.hid hs
      clear hb HP hs
      cases hp0 : ((pe : Int) == 0) with
      | false =>
        have hp1 : ((pe : Int) != 0) = true := by rw [bne, hp0]; rfl
        have HE := Lib.hid (unE_3 H1.out HS.out (.inl (by
          refine pack_take_ne ?_
          rw [← HX.out, HPE.out]
          intro h; rw [h] at hp0; cases hp0)))
        go_wp2_with fail
        go_ret2
        exact ⟨none, 0, by rw [HE.out.1, HE.out.2]; rfl, by rw [HE.out.2]; exact TxtOut.nil HT3.out.2.2⟩
      | true =>
        have hp1 : ((pe : Int) != 0) = false := by rw [bne, hp0]; rfl
        have hpe0 : packE out = 0 := by rw [HPE.out]; have := eq_of_beq hp0; omega
        have ht : (unI l).take 129 = unI l := pack_take (by rw [← HX.out]; exact hpe0)
        have HX := Lib.hid (show out = unI l by rw [HX.out, ht])
        have HP0 := Lib.hid (show packE (unI l) = 0 by rw [← HX.out]; exact hpe0)
        clear ht hpe0
        have hcb := run_string_of_bytes c0 (Hr.out.below HT3.out.2.2)
        by_cases hpl : s = ⟨l.toArray⟩
        · have HE := Lib.hid (unE_4 H1.out HS.out HP0.out (by rw [← HX.out, ← HS3.out, hpl, bl_mk]))
          subst hpl
          have hss : ((⟨l.toArray⟩ : ByteArray).toList == (⟨l.toArray⟩ : ByteArray).toList) = true := beq_self_eq_true _
          generalize (⟨l.toArray⟩ : ByteArray) = s at hcb hss HS3 ⊢
          go_wp2_with fail
          refine (HQ.out _ HT3.out).mono ?_
          rintro e w4 ⟨rfl, hb⟩
          have HT4 := Lib.hid (HT3.out.keep hb)
          clear hb
          go_wp2_with fail
          go_ret2
          exact ⟨A, c, by rw [HE.out.1, HE.out.2, ← HX.out]; rfl, by rw [HE.out.2, ← HX.out]; exact HT4.out⟩
        · have HE := Lib.hid (unE_3 H1.out HS.out (.inr (fun e => hpl (by
            refine bl_inj ?_
            rw [bl_mk, ← e, ← HX.out]
            exact HS3.out))))
          have hss : (s.toList == (⟨l.toArray⟩ : ByteArray).toList) = false := by rw [beq_eq_false_iff_ne]; exact fun e => hpl (str_inj e)
          clear hpl
          generalize (⟨l.toArray⟩ : ByteArray) = s2 at hcb hss ⊢
          go_wp2_with fail
          go_ret2
          exact ⟨none, 0, by rw [HE.out.1, HE.out.2]; rfl, by rw [HE.out.2]; exact TxtOut.nil HT3.out.2.2⟩
end Go.Proofs.Ytcahflddafdhfaa
