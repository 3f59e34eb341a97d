/- What takes it back. -/
import Derived.Test.YtiolfnnkkflaiaaDel6
open Go.RowKit
namespace Go.Proofs.Ytiolfnnkkflaiaa

def undoL (im : List ByteArray) (l : List (Int × ByteArray)) : List (Int × ByteArray) := l.map fun p => (p.1, im.getD p.1.toNat ⟨#[]⟩)
theorem undoL_cons (im : List ByteArray) (n : Nat) (s : ByteArray) (l : List (Int × ByteArray)) (hn : n < im.length) : undoL im (((n : Int), s) :: l) = ((n : Int), im[n]) :: undoL im l := by
  unfold undoL
  rw [List.map_cons, Int.toNat_natCast, List.getD_eq_getElem?_getD, List.getElem?_eq_getElem hn]; rfl
def undoR (im : List ByteArray) (l : List (Int × ByteArray)) : List (Int × ByteArray) := if mayE im.length l = 0 then undoL im l else []
theorem undoR_ok {im : List ByteArray} {l : List (Int × ByteArray)} (h : mayE im.length l = 0) : undoR im l = undoL im l := by unfold undoR; rw [if_pos h]
theorem undoR_no {im : List ByteArray} {l : List (Int × ByteArray)} (h : mayE im.length l ≠ 0) : undoR im l = [] := by unfold undoR; rw [if_neg h]

theorem keepsAlloc (w : World) (o : Obj) : KeepsBut [] w (w.alloc o) :=
  ⟨by show w.heap.size ≤ (w.heap.push _).size; rw [Array.size_push]; omega, fun i hi _ => heap_alloc_old w o hi⟩

set_option maxHeartbeats 2000000 in
set_option maxRecDepth 100000 in
theorem undo_any (w : World) (A B : Option Addr) (m : List ByteArray) (l : List (Int × ByteArray)) (c d : Nat) (hm : Reads w 1 B m.length (sts m)) (hml : m.length ≤ 10000) (hr : Reads w 2 A l.length (pks l)) (hl : l.length ≤ 10000) :
    Calls Try.prog 22 #[.slice B m.length d, .slice A l.length c] w fun e w' => ∃ A1 c1, e = .returned (.tuple #[.slice A1 (undoR m l).length c1, .int .i64 (mayE m.length l : Nat)]) ∧ PutOut w w' A1 c1 (undoR m l) := by
  have HM := Lib.hid (may_any w A B m l c d hr (by omega))
  have Hr := Lib.hid hr
  have Hm := Lib.hid hm
  clear hr hm
  by_cases h0 : mayE m.length l = 0
  · have HZ := Lib.hid (mayE_zero h0)
    rw [undoR_ok h0, h0]
    rw [h0] at HM
    clear h0
    go_enter Try.func22, Try.ntmps22
    go_wp2_with fail
    refine HM.out.mono ?_
    rintro e w1 ⟨rfl, hb1⟩
    have Hb1 := Lib.hid hb1
    clear hb1
    rw [show ((0 : Nat) : Int) = 0 from rfl]
    go_wp2_with fail
    go_loopw [7, 18] (fun v i wr => ∃ (k : Nat) (A1 : Option Addr) (c1 : Nat) (ps : List (Int × ByteArray)), k ≤ l.length ∧ v = .slice A1 ps.length c1 ∧ i = .int .i64 k ∧ Hid (ps.length = k) ∧ Hid (ps ++ undoL m (l.drop k) = undoL m l) ∧ Hid (PutOut w wr A1 c1 ps)) (fun _ i _ => l.length - (intOf i).toNat)
    case atStart => exact ⟨0, none, 0, [], Nat.zero_le _, rfl, rfl, Lib.hid rfl, Lib.hid rfl, Lib.hid ⟨URow.nil _, by simp [blk], Hb1.out⟩⟩
    case round =>
      obtain ⟨k, A1, c1, ps, hk, rfl, rfl, Hp, HU, HP⟩ := hrel
      by_cases hlt : k < l.length
      · obtain ⟨ad, rfl, d0, d1⟩ := put_cells (Hr.out.below HP.out.2.2) hlt
        have hx := HZ.out.2 l[k] (List.getElem_mem hlt)
        rw [drop_at hlt] at HU
        generalize l[k] = p at d0 d1 hx HU
        obtain ⟨x, s⟩ := p
        simp only at d0 d1 hx
        obtain ⟨n, rfl⟩ := Int.eq_ofNat_of_zero_le hx.1
        have hn : n < m.length := by omega
        have hnI : (n : Int) < (m.length : Int) := by omega
        rw [undoL_cons m n s _ hn] at HU
        obtain ⟨hb3, hg3, _⟩ := alloc1 wr #[.int .i64 (n : Int), .string s] 93
        obtain ⟨bd, rfl, e0⟩ := str_cell ((Hm.out.below HP.out.2.2).below hb3.drew) hn
        generalize m[n] = t at e0 HU
        have hP3 := HP.out.keep hb3.drew
        have hg3 : (wr.alloc (.cells #[.int .i64 (n : Int), .string s] 93)).drew.heap[wr.heap.size]? = some (.cells #[.int .i64 (n : Int), .string s] 93 (0, 0)) := hg3
        obtain ⟨q0, _, _, _⟩ := cells2 hg3
        have HP3 := Lib.hid hP3
        have Hlen := Lib.hid (show ps.length + 1 ≤ 100000 by have := Hp.out; omega)
        have Hsz := Lib.hid (show wr.heap.size ≤ (wr.alloc (.cells #[.int .i64 (n : Int), .string s] 93)).drew.heap.size from hb3.drew.size)
        clear hx hb3 hg3 hP3
        go_wp2_with fail
        refine wp_region_mix3 (KeepsBut []) (KeepsBut.refl []) (KeepsBut.trans []) [10] [(0, 0), (0, 1), (0, 3), (0, 4), (1, 2), (1, 5), (0, 6), (1, 7), (0, 8), (2, 9), (2, 10), (0, 11)] (by kernel_rfl) (by kernel_rfl) (fun d _ _ _ _ h => by cases d <;> exact h) ?_
        generalize (wr.alloc (.cells #[.int .i64 (n : Int), .string s] 93)).drew = w3 at *
        have r0 := fun w' (hk : KeepsBut [] w3 w') => hk.cell (p := ⟨wr.heap.size, 0, none⟩) q0 (by simp)
        have r1 := fun w' (hk : KeepsBut [] w3 w') => hk.cell (p := bd.add n) e0 (by simp)
        repeat (first
          | (refine mix3_free (v := ?_) rfl rfl ?_ (mix3_norm (a' := ?_) ?_ ?_)
             rotate_left
             focus (intro w'; go_simp; first | done | (with_reducible rfl))
             rotate_left
             focus (simp only [Act.put, List.getElem_toArray, List.getElem_cons_zero, List.getElem_cons_succ, List.setIfInBounds_toArray, List.set_cons_zero, List.set_cons_succ]; rfl))
          | (refine mix3_pure (v := ?_) rfl rfl ?_ (mix3_norm (a' := ?_) ?_ ?_)
             rotate_left
             focus (intro w' hR; go_simp; first | done | (with_reducible rfl))
             rotate_left
             focus (simp only [Act.put, List.getElem_toArray, List.getElem_cons_zero, List.getElem_cons_succ, List.setIfInBounds_toArray, List.set_cons_zero, List.set_cons_succ]; rfl))
          | (refine mix3_freeOff rfl rfl (mix3_norm (a' := ?_) ?_ ?_)
             rotate_left
             focus (simp only [Act.put, List.getElem_toArray, List.getElem_cons_zero, List.getElem_cons_succ, List.setIfInBounds_toArray, List.set_cons_zero, List.set_cons_succ]; rfl))
          | (refine mix3_off rfl rfl (mix3_norm (a' := ?_) ?_ ?_)
             rotate_left
             focus (simp only [Act.put, List.getElem_toArray, List.getElem_cons_zero, List.getElem_cons_succ, List.setIfInBounds_toArray, List.set_cons_zero, List.set_cons_succ]; rfl)))
        clear r0 r1 q0 e0 d0 d1
        refine mix3_eff rfl ?_
        simp only [List.getElem_toArray, List.getElem_cons_zero, List.getElem_cons_succ]
        go_wp2_with fail
        refine mixQ3_normal (keepsAlloc _ _) rfl ?_
        refine mix3_eff rfl ?_
        simp only [List.getElem_toArray, List.getElem_cons_zero, List.getElem_cons_succ]
        refine wpList_append_put rfl (.tmp 22) (.tmp 31) rfl A1 c1 ps rfl (HP3.out.1.below ((Below.refl _ _).alloc (Nat.le_refl _) _)) (some ⟨w3.heap.size, 0, none⟩) 1 [((n : Int), t)] 1 rfl rfl (Reads.of_block (n := 1) (cs := #[.int .i64 (n : Int), .string t]) (heap_alloc_new w3 _) rfl) Hlen.out ?_
        intro A2 c2 w4 hrow hchg hblk
        have hC : Chg (fun i => blk A1 = some i) w3 w4 := ((Chg.refl (fun i => blk A1 = some i) w3).alloc _).trans hchg (fun _ _ h => h)
        have Hout := Lib.hid (HP3.out.grow hrow hC (fun k hk => by
          have h3 := HP3.out.2.2.size
          rcases hblk k hk with h | h
          · exact .inl h
          · right
            have hs3 : (w3.alloc (.cells #[.int .i64 (n : Int), .string t] 93)).heap.size = w3.heap.size + 1 := size_alloc _ _
            rw [h]; omega))
        clear hrow hchg hblk hC
        go_wp2_with fail
        refine mixQ3_last (by simp) rfl ?_
        repeat (first
          | (refine mix3_free (v := ?_) rfl rfl ?_ (mix3_norm (a' := ?_) ?_ ?_)
             rotate_left
             focus (intro w'; go_simp; first | done | (with_reducible rfl))
             rotate_left
             focus (simp only [Act.put, List.getElem_toArray, List.getElem_cons_zero, List.getElem_cons_succ, List.setIfInBounds_toArray, List.set_cons_zero, List.set_cons_succ]; rfl))
          | (refine mix3_pure (v := ?_) rfl rfl ?_ (mix3_norm (a' := ?_) ?_ ?_)
             rotate_left
             focus (intro w' hR; go_simp; first | done | (with_reducible rfl))
             rotate_left
             focus (simp only [Act.put, List.getElem_toArray, List.getElem_cons_zero, List.getElem_cons_succ, List.setIfInBounds_toArray, List.set_cons_zero, List.set_cons_succ]; rfl))
          | (refine mix3_freeOff rfl rfl (mix3_norm (a' := ?_) ?_ ?_)
             rotate_left
             focus (simp only [Act.put, List.getElem_toArray, List.getElem_cons_zero, List.getElem_cons_succ, List.setIfInBounds_toArray, List.set_cons_zero, List.set_cons_succ]; rfl))
          | (refine mix3_off rfl rfl (mix3_norm (a' := ?_) ?_ ?_)
             rotate_left
             focus (simp only [Act.put, List.getElem_toArray, List.getElem_cons_zero, List.getElem_cons_succ, List.setIfInBounds_toArray, List.set_cons_zero, List.set_cons_succ]; rfl)))
        refine mix3_done ?_
        go_wp2_with fail
        case roundEnd =>
          exact ⟨⟨k + 1, A2, c2, ps ++ [((n : Int), t)], by omega, by simp, by push_cast; rfl, Lib.hid (by have := Hp.out; simp; omega), Lib.hid (by rw [List.append_assoc]; exact HU.out), Hout⟩, by simp only [intOf]; omega⟩
      · obtain rfl : k = l.length := by omega
        have HF : Hid (ps = undoL m l) := Lib.hid (by have h := HU.out; rw [List.drop_length] at h; rw [← h]; simp [undoL])
        go_wp2_with fail
        go_ret2
        exact ⟨A1, c1, by rw [← HF.out]; rfl, by rw [← HF.out]; exact HP.out⟩
  · rw [undoR_no h0]
    have hb : ((mayE m.length l : Int) != 0) = true := by rw [bne_iff_ne]; omega
    generalize mayE m.length l = e1 at *
    clear h0
    go_enter Try.func22, Try.ntmps22
    go_wp2_with fail
    refine HM.out.mono ?_
    rintro e w1 ⟨rfl, hb1⟩
    have Hb1 := Lib.hid hb1
    clear hb1
    go_wp2_with fail
    go_ret2
    exact ⟨none, 0, rfl, URow.nil _, by simp [blk], Hb1.out⟩

set_option maxHeartbeats 2000000 in
set_option maxRecDepth 100000 in
theorem refUndo_any (w : World) (A B : Option Addr) (m : List ByteArray) (l : List (Int × ByteArray)) (c d : Nat) (hm : Reads w 1 B m.length (sts m)) (hml : m.length ≤ 10000) (hr : Reads w 2 A l.length (pks l)) (hl : l.length ≤ 10000) :
    Calls Try.prog 23 #[.slice B m.length d, .slice A l.length c] w fun e w' => ∃ A1 c1, e = .returned (.tuple #[.slice A1 (undoR m l).length c1, .int .i64 (mayE m.length l : Nat)]) ∧ PutOut w w' A1 c1 (undoR m l) := by
  have HM := Lib.hid (refApply_any w A B m l c d hm (by omega) hr (by omega))
  have Hr := Lib.hid hr
  have Hm := Lib.hid hm
  clear hr hm
  by_cases h0 : mayE m.length l = 0
  · have HZ := Lib.hid (mayE_zero h0)
    rw [undoR_ok h0, h0]
    rw [h0] at HM
    clear h0
    go_enter Try.func23, Try.ntmps23
    go_wp2_with fail
    refine HM.out.mono ?_
    rintro e w1 ⟨AZ, cZ, rfl, ho⟩
    have Hb1 := Lib.hid ho.2.2
    clear ho HM
    generalize (applyR m l).length = z
    rw [show ((0 : Nat) : Int) = 0 from rfl]
    go_wp2_with fail
    go_loopw [8, 9] (fun v i wr => ∃ (k : Nat) (A1 : Option Addr) (c1 : Nat) (ps : List (Int × ByteArray)), k ≤ l.length ∧ v = .slice A1 ps.length c1 ∧ i = .int .i64 k ∧ Hid (ps.length = k) ∧ Hid (ps ++ undoL m (l.drop k) = undoL m l) ∧ Hid (PutOut w wr A1 c1 ps)) (fun _ i _ => l.length - (intOf i).toNat)
    case atStart => exact ⟨0, none, 0, [], Nat.zero_le _, rfl, rfl, Lib.hid rfl, Lib.hid rfl, Lib.hid ⟨URow.nil _, by simp [blk], Hb1.out⟩⟩
    case round =>
      obtain ⟨k, A1, c1, ps, hk, rfl, rfl, Hp, HU, HP⟩ := hrel
      by_cases hlt : k < l.length
      · obtain ⟨ad, rfl, d0, d1⟩ := put_cells (Hr.out.below HP.out.2.2) hlt
        have hx := HZ.out.2 l[k] (List.getElem_mem hlt)
        rw [drop_at hlt] at HU
        generalize l[k] = p at d0 d1 hx HU
        obtain ⟨x, s⟩ := p
        simp only at d0 d1 hx
        obtain ⟨n, rfl⟩ := Int.eq_ofNat_of_zero_le hx.1
        have hn : n < m.length := by omega
        have hnI : (n : Int) < (m.length : Int) := by omega
        rw [undoL_cons m n s _ hn] at HU
        obtain ⟨bd, rfl, e0⟩ := str_cell (Hm.out.below HP.out.2.2) hn
        generalize m[n] = t at e0 HU
        have Hlen := Lib.hid (show ps.length + 1 ≤ 100000 by have := Hp.out; omega)
        have HX := Lib.hid (show URow (wr.alloc (.cells #[.int .i64 (n : Int), .string t] 93)) A1 c1 ps ∧ Reads (wr.alloc (.cells #[.int .i64 (n : Int), .string t] 93)) 2 (some ⟨wr.heap.size, 0, none⟩) 1 (pks [((n : Int), t)]) from
          ⟨HP.out.1.below ((Below.refl _ _).alloc (Nat.le_refl _) _), Reads.of_block (n := 1) (heap_alloc_new _ _) rfl⟩)
        clear hx
        go_wp2_with (at_builtin; refine wpList_append_put rfl (.tmp 31) (.tmp 38) rfl A1 c1 ps rfl HX.out.1 (some ⟨wr.heap.size, 0, none⟩) 1 [((n : Int), t)] 1 rfl rfl HX.out.2 Hlen.out ?_)
        intro A2 c2 w4 hrow hchg hblk
        have hC : Chg (fun i => blk A1 = some i) wr w4 := ((Chg.refl (fun i => blk A1 = some i) wr).alloc _).trans hchg (fun _ _ h => h)
        have Hout := Lib.hid (HP.out.grow hrow hC (fun k hk => by
          have h3 := HP.out.2.2.size
          rcases hblk k hk with h | h
          · exact .inl h
          · right; omega))
        clear hrow hchg hblk hC
        go_wp2_with fail
        case roundEnd =>
          exact ⟨⟨k + 1, A2, c2, ps ++ [((n : Int), t)], by omega, by simp, by push_cast; rfl, Lib.hid (by have := Hp.out; simp; omega), Lib.hid (by rw [List.append_assoc]; exact HU.out), Hout⟩, by simp only [intOf]; omega⟩
      · obtain rfl : k = l.length := by omega
        have HF : Hid (ps = undoL m l) := Lib.hid (by have h := HU.out; rw [List.drop_length] at h; rw [← h]; simp [undoL])
        go_wp2_with fail
        go_ret2
        exact ⟨A1, c1, by rw [← HF.out]; rfl, by rw [← HF.out]; exact HP.out⟩
  · rw [undoR_no h0]
    have hb : ((mayE m.length l : Int) != 0) = true := by rw [bne_iff_ne]; omega
    generalize mayE m.length l = e1 at *
    clear h0
    go_enter Try.func23, Try.ntmps23
    go_wp2_with fail
    refine HM.out.mono ?_
    rintro e w1 ⟨AZ, cZ, rfl, ho⟩
    have Hb1 := Lib.hid ho.2.2
    clear ho HM
    generalize (applyR m l).length = z
    go_wp2_with fail
    go_ret2
    exact ⟨none, 0, rfl, URow.nil _, by simp [blk], Hb1.out⟩
end Go.Proofs.Ytiolfnnkkflaiaa
