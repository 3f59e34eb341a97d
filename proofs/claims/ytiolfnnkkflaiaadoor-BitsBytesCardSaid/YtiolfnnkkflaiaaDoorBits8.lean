/- Sets as bytes; there and back. -/
import Derived.Test.YtiolfnnkkflaiaaDoorBits7
import Derived.Test.YtiolfnnkkflaiaaDoorText
open Go.RowKit
namespace Go.Proofs.YtiolfnnkkflaiaaDoor

def setB (a b : Nat) : ByteArray := ⟨(be 8 a ++ be 8 b).toArray⟩
theorem bl_setB (a b : Nat) : bl (setB a b) = be 8 a ++ be 8 b := bl_mk _
theorem setB_size (a b : Nat) : (setB a b).size = 16 := by
  rw [← bl_length, bl_setB, List.length_append, be_length, be_length]
theorem setB_txt (a b : Nat) : txt 8 a ++ txt 8 b = setB a b := by
  apply bl_inj
  rw [bl_append, bl_setB, show (8 : Int) = ((8 : Nat) : Int) from rfl, bl_txt 8 a (by omega) (by omega), bl_txt 8 b (by omega) (by omega)]
theorem wPut8 (l : List UInt8) (n : Nat) : wPut l 8 n = l ++ be 8 n := wPut_ok (wOk_true (by omega) (by omega))

set_option maxHeartbeats 1000000 in
set_option maxRecDepth 100000 in
theorem bitsBytes_m (a b : Nat) (ha : a < 18446744073709551616) (hb : b < 18446744073709551616) (w : World) :
    Calls Tryd.prog 25 #[.agg #[.int .u64 a, .int .u64 b]] w fun e w' => e = .returned (.string (setB a b)) ∧ Below w.heap.size w w' := by
  obtain ⟨hb1, _, _⟩ := alloc1 w #[.int .u64 a, .int .u64 b] 26
  have i0 : ∀ W : World, (Instr.index 26 (.agg #[.int .u64 a, .int .u64 b]) (.int .i64 0)).run Tryd.prog W = .ok (.int .u64 a) W := fun W => by kernel_rfl
  have i1 : ∀ W : World, (Instr.index 26 (.agg #[.int .u64 a, .int .u64 b]) (.int .i64 1)).run Tryd.prog W = .ok (.int .u64 b) W := fun W => by kernel_rfl
  have Ha := Lib.hid ha
  have Hb := Lib.hid hb
  clear ha hb
  go_enter Tryd.func25, Tryd.ntmps25
  go_wp2_with fail
  generalize w.alloc (.cells #[.int .u64 a, .int .u64 b] 26) = w1 at hb1 ⊢
  have HR1 := Lib.hid hb1
  clear hb1
  refine wp_loop_rounds 3 ?_
  rw [rounds_succ]
  go_wp2_with fail
  refine (put_any none [] 0 8 a Ha.out w1 (Reads.nil _ _ _) (by simp)).mono ?_
  rintro e w2 ⟨A2, c2, rfl, ho2, hb2⟩
  have HR2 := Lib.hid (HR1.out.trans (hb2.mono (B' := w.heap.size) HR1.out.size))
  rw [wPut8, List.nil_append] at ho2 ⊢
  have Hr2 := Lib.hid ho2.reads
  have hl : (be 8 a).length = 8 := be_length 8 a
  have hl2 : (be 8 a ++ be 8 b).length = 16 := by rw [List.length_append, be_length, be_length]
  have Hl2 := Lib.hid hl2
  have Hl := Lib.hid hl
  have Hp := Lib.hid (wPut8 (be 8 a) b)
  have Hs := Lib.hid (show setB a b = ⟨(be 8 a ++ be 8 b).toArray⟩ from rfl)
  clear ho2 hb2 hl hl2 HR1
  generalize be 8 a = la at Hr2 Hl Hl2 Hp Hs ⊢
  generalize be 8 b = lb at Hl2 Hp Hs
  go_wp2_with fail
  rw [rounds_succ]
  go_wp2_with fail
  refine (put_any A2 la c2 8 b Hb.out w2 Hr2.out (by rw [Hl.out]; omega)).mono ?_
  rintro e w3 ⟨A3, c3, rfl, ho3, hb3⟩
  have HR3 := Lib.hid (HR2.out.trans (hb3.mono (B' := w.heap.size) HR2.out.size))
  rw [Hp.out] at ho3 ⊢
  have hcv : (convert 56 9 (.slice A3 (la ++ lb).length c3)).run Tryd.prog w3 = .ok (.string (setB a b)) w3 := by rw [Hs.out]; exact run_string_of_bytes c3 ho3.reads
  clear ho3 hb3 HR2 i0 i1
  generalize (la ++ lb).length = m at hcv ⊢
  go_wp2_with fail
  rw [rounds_succ]
  go_wp2_with fail
  go_ret
  exact ⟨rfl, HR3.out⟩

set_option maxHeartbeats 1000000 in
set_option maxRecDepth 100000 in
theorem refBytes_m (a b : Nat) (ha : a < 18446744073709551616) (hb : b < 18446744073709551616) (w : World) :
    Calls Tryd.prog 26 #[.agg #[.int .u64 a, .int .u64 b]] w fun e w' => e = .returned (.string (setB a b)) ∧ Below w.heap.size w w' := by
  obtain ⟨hb1, hg1, hs1⟩ := alloc1 w #[.int .u64 a, .int .u64 b] 30
  have Ta := Lib.hid (text_any 8 a ha)
  have Tb := Lib.hid (text_any 8 b hb)
  have hadd : ∀ W : World, (Op.stringOp .add (txt 8 a) (txt 8 b)).run Tryd.prog W = .ok (.string (setB a b)) W := fun W => by
    rw [← setB_txt]
    exact run_string_add_sum W _ _ (by rw [show (8 : Int) = ((8 : Nat) : Int) from rfl, txt_size 8 a (by omega) (by omega), txt_size 8 b (by omega) (by omega)]; omega)
  generalize txt 8 a = ta at *
  generalize txt 8 b = tb at *
  clear ha hb
  go_enter Tryd.func26, Tryd.ntmps26
  go_wp2_with fail
  generalize w.alloc (.cells #[.int .u64 a, .int .u64 b] 30) = w1 at hb1 hg1 hs1 ⊢
  have HB1 := Lib.hid hb1
  have G1 := Lib.hid hg1
  have HR1 := Lib.hid ((Below.refl w1.heap.size w1).drew)
  clear hb1 hg1 hs1
  obtain ⟨p0, p1⟩ := keep2 G1.out HR1.out
  refine wp_region_mix (KeepsBut []) (KeepsBut.refl []) (KeepsBut.trans []) [] [(true, 0), (true, 1), (true, 3), (true, 4), (false, 2), (false, 5), (true, 6), (true, 7)] (by kernel_rfl) (by kernel_rfl) (fun d _ _ _ _ h => by cases d <;> exact h) ?_
  repeat (first
    | (refine mix_pure (v := ?_) rfl rfl ?_ (mix_norm (a' := ?_) ?_ ?_)
       rotate_left
       focus (intro w' hR; go_simp; first | done | (with_reducible rfl))
       rotate_left
       focus (simp only [Act.put, List.getElem_toArray, List.getElem_cons_zero, List.getElem_cons_succ, List.setIfInBounds_toArray, List.set_cons_zero, List.set_cons_succ]; rfl))
    | (refine mix_off rfl rfl (mix_norm (a' := ?_) ?_ ?_)
       rotate_left
       focus (simp only [Act.put, List.getElem_toArray, List.getElem_cons_zero, List.getElem_cons_succ, List.setIfInBounds_toArray, List.set_cons_zero, List.set_cons_succ]; rfl)))
  clear p0 p1
  refine mix_eff rfl ?_
  simp only [List.getElem_toArray, List.getElem_cons_zero, List.getElem_cons_succ]
  go_wp2_with fail
  refine (Ta.out _).mono ?_
  rintro e w2 ⟨rfl, hb2⟩
  have HR2 := Lib.hid (show Below w1.heap.size w1 w2 from HR1.out.trans (hb2.mono (B' := w1.heap.size) HR1.out.size))
  go_wp2_with fail
  refine mixQ_normal (KeepsBut.of_below hb2) rfl ?_
  clear hb2
  refine mix_eff rfl ?_
  simp only [List.getElem_toArray, List.getElem_cons_zero, List.getElem_cons_succ]
  go_wp2_with fail
  refine (Tb.out _).mono ?_
  rintro e w3 ⟨rfl, hb3⟩
  have HR3 := Lib.hid (show Below w1.heap.size w1 w3 from HR2.out.trans (hb3.mono (B' := w1.heap.size) HR2.out.size))
  go_wp2_with fail
  refine mixQ_normal (KeepsBut.of_below hb3) rfl ?_
  clear hb3
  repeat (first
    | (refine mix_pure (v := ?_) rfl rfl ?_ (mix_norm (a' := ?_) ?_ ?_)
       rotate_left
       focus (intro w' hR; go_simp; first | done | (with_reducible rfl))
       rotate_left
       focus (simp only [Act.put, List.getElem_toArray, List.getElem_cons_zero, List.getElem_cons_succ, List.setIfInBounds_toArray, List.set_cons_zero, List.set_cons_succ]; rfl))
    | (refine mix_off rfl rfl (mix_norm (a' := ?_) ?_ ?_)
       rotate_left
       focus (simp only [Act.put, List.getElem_toArray, List.getElem_cons_zero, List.getElem_cons_succ, List.setIfInBounds_toArray, List.set_cons_zero, List.set_cons_succ]; rfl)))
  refine mix_done ?_
  go_wp2_with fail
  go_ret
  exact ⟨rfl, HB1.out.trans (HR3.out.mono HB1.out.size)⟩

/-! ### there and back -/
theorem beNum_be8 (n : Nat) (h : n < 18446744073709551616) : beNum (be 8 n) = n := by
  rw [beNum_be]; have : (256 : Nat) ^ 8 = 18446744073709551616 := by decide
  omega
theorem fromS_setB (a b : Nat) (ha : a < 18446744073709551616) (hb : b < 18446744073709551616) : fromS (bl (setB a b)) = (a, b, 0) := by
  rw [bl_setB, fromS_ok (by rw [List.length_append, be_length, be_length])]
  have h1 : (be 8 a ++ be 8 b).take 8 = be 8 a := by rw [List.take_append_of_le_length (by rw [be_length]; omega), List.take_of_length_le (by rw [be_length]; omega)]
  have h2 : (be 8 a ++ be 8 b).drop 8 = be 8 b := by rw [List.drop_append_of_le_length (by rw [be_length]; omega), List.drop_of_length_le (by rw [be_length]; omega), List.nil_append]
  rw [h1, h2, List.take_of_length_le (by rw [be_length]; omega), beNum_be8 a ha, beNum_be8 b hb]
theorem be_beNum (l : List UInt8) : be l.length (beNum l) = l := by
  induction l with
  | nil => rw [List.length_nil, be_zero]
  | cons c l ih =>
    rw [List.length_cons, be_succ, beNum_cons]
    have hlt := beNum_lt l
    have hp : 0 < 256 ^ l.length := Nat.pow_pos (by omega)
    have hd : (c.toNat * 256 ^ l.length + beNum l) / 256 ^ l.length = c.toNat := by
      rw [Nat.mul_comm, Nat.mul_add_div hp, Nat.div_eq_of_lt hlt]; omega
    have hc := c.toNat_lt
    rw [hd, Nat.mod_eq_of_lt (by omega)]
    congr 1
    · apply UInt8.toNat_inj.1; rw [UInt8.toNat_ofNat']; omega
    · have key : ∀ (k : Nat), k ≤ l.length → be k (c.toNat * 256 ^ l.length + beNum l) = be k (beNum l) := by
        intro k hk
        induction k with
        | zero => rw [be_zero, be_zero]
        | succ k ihk =>
          rw [be_succ, be_succ, ihk (by omega)]
          congr 2
          obtain ⟨d, hd⟩ : ∃ d, l.length = k + 1 + d := ⟨l.length - (k + 1), by omega⟩
          have hpk : 0 < 256 ^ k := Nat.pow_pos (by omega)
          rw [hd, Nat.pow_add, Nat.pow_succ]
          rw [show c.toNat * (256 ^ k * 256 * 256 ^ d) = 256 ^ k * (256 * (c.toNat * 256 ^ d)) by simp only [Nat.mul_comm, Nat.mul_left_comm, Nat.mul_assoc]]
          rw [Nat.mul_add_div hpk, Nat.mul_add_mod]
      rw [key l.length (Nat.le_refl _), ih]
theorem setB_fromS (s : ByteArray) (h : (fromS (bl s)).2.2 = 0) : setB (fromS (bl s)).1 (fromS (bl s)).2.1 = s := by
  by_cases hl : (bl s).length = 16
  · rw [fromS_ok hl]
    apply bl_inj
    rw [bl_setB]
    have h1 := be_beNum ((bl s).take 8)
    have h2 := be_beNum (((bl s).drop 8).take 8)
    rw [List.length_take, hl] at h1
    rw [List.length_take, List.length_drop, hl] at h2
    show be 8 _ ++ be 8 _ = _
    rw [show min 8 16 = 8 by omega] at h1
    rw [show min 8 (16 - 8) = 8 by omega] at h2
    rw [h1, h2, List.take_of_length_le (i := 8) (l := (bl s).drop 8) (by rw [List.length_drop]; omega), List.take_append_drop]
  · rw [fromS_no hl] at h; cases h

theorem has_sput (a b n j : Nat) (hn : n < 128) (hj : j < 128) : has (sput a b n).1 (sput a b n).2 j = (has a b j || decide (j = n)) := by
  unfold sput
  split
  · rename_i h
    unfold has
    split
    · rw [Nat.testBit_or, Nat.testBit_two_pow]
      by_cases e : n = j
      · subst e; simp
      · have : ¬ j = n := fun h => e h.symm
        simp [e, this]
    · have : j ≠ n := by omega
      simp [this]
  · rename_i h
    unfold has
    split
    · have : j ≠ n := by omega
      simp [this]
    · rw [Nat.testBit_or, Nat.testBit_two_pow]
      by_cases e : j = n
      · subst e; simp
      · have : ¬ n - 64 = j - 64 := by omega
        simp [e, this]
theorem ofS_list : ∀ (l : List Nat) (x y : Nat), x < 18446744073709551616 → y < 18446744073709551616 → (∀ n ∈ l, n < 128) →
    ∃ x' y', ofS (l.map Int.ofNat) x y = (x', y', 0) ∧ x' < 18446744073709551616 ∧ y' < 18446744073709551616 ∧ ∀ j, j < 128 → has x' y' j = (has x y j || decide (j ∈ l))
  | [], x, y, hx, hy, _ => ⟨x, y, rfl, hx, hy, fun j _ => by simp⟩
  | n :: l, x, y, hx, hy, hl => by
    have hn := hl n (by simp)
    obtain ⟨h1, h2⟩ := sput_lt x y n hx hy hn
    obtain ⟨x', y', e, hx', hy', hh⟩ := ofS_list l _ _ h1 h2 (fun m hm => hl m (by simp [hm]))
    refine ⟨x', y', ?_, hx', hy', fun j hj => ?_⟩
    · rw [List.map_cons, ofS_in _ _ _ _ (show 0 ≤ Int.ofNat n ∧ Int.ofNat n < 128 by constructor <;> (simp; try omega))]
      exact e
    · rw [hh j hj, has_sput x y n j hn hj]
      by_cases e1 : j = n <;> simp [e1]
theorem ofS_lst (a b : Nat) (ha : a < 18446744073709551616) (hb : b < 18446744073709551616) : ofS ((lst a b).map Int.ofNat) 0 0 = (a, b, 0) := by
  obtain ⟨x', y', e, hx, hy, hh⟩ := ofS_list (lst a b) 0 0 (by omega) (by omega) (fun n hn => by
    unfold lst at hn
    simp only [List.mem_filter, List.mem_range] at hn
    exact hn.1)
  have hz (j : Nat) : has 0 0 j = false := by unfold has; split <;> simp
  have hall : ∀ j, j < 128 → has x' y' j = has a b j := fun j hj => by
    rw [hh j hj, hz]
    unfold lst
    simp [List.mem_filter, hj]
  obtain ⟨h1, h2⟩ := ofBits_has (has a b) x' y' hx hy (fun k hk => (hall k hk).symm)
  obtain ⟨h3, h4⟩ := ofBits_has (has a b) a b ha hb (fun k _ => rfl)
  rw [e, ← h1.symm.trans h3, ← h2.symm.trans h4]
end Go.Proofs.YtiolfnnkkflaiaaDoor
