/- A past of the document's: an epoch's image is sealed. -/
import Derived.Test.YtiolfnnkkflaiaaRPast4
open Go.RowKit
namespace Go.Proofs.Ytiolfnnkkflaiaa
section
variable {w w1 w2 w4 w5 : World} {g : Nat} {A : Option Addr} {c : Nat} {T : List TR} {E E1 B B1 : Option Addr} {ce ce1 d d1 : Nat} {I : List IM} {m : IM}
theorem RPM.seal (h : RPM w1 g A c T E ce B d I) (hm : SRow w1 m.A m.c m.xs) (hmF : ∀ k, blk m.A = some k → ¬ RPF g A T E B I k)
    (hE : w2.ownsRow 0 57 1 (.slice E1 (I.length + 1) ce1) (I.length + 1) (nvs (eps I ++ [m.e]))) (hcE : Chg (fun i => blk E = some i) w1 w2) (hkE : ∀ k, blk E1 = some k → blk E = some k ∨ w1.heap.size ≤ k)
    (hb : Below w2.heap.size (w2.setCell ⟨g, 1, none⟩ (.slice E1 (I.length + 1) ce1)) w4)
    (hB : w5.ownsRow 0 22 1 (.slice B1 (I.length + 1) d1) (I.length + 1) (jvs (I ++ [m]))) (hcB : Chg (fun i => blk B = some i) w4 w5) (hkB : ∀ k, blk B1 = some k → blk B = some k ∨ w4.heap.size ≤ k) :
    RPM (w5.setCell ⟨g, 2, none⟩ (.slice B1 (I.length + 1) d1)) g A c T E1 ce1 B1 d1 (I ++ [m]) ∧ (∀ i, RPF g A T E1 B1 (I ++ [m]) i → RPF g A T E B I i ∨ w1.heap.size ≤ i ∨ blk m.A = some i) ∧ Chg (RPF g A T E B I) w1 (w5.setCell ⟨g, 2, none⟩ (.slice B1 (I.length + 1) d1)) := by
  have sE : blk E ≠ some g := fun e => h.s2 (.inl e)
  have sB : blk B ≠ some g := fun e => h.s2 (.inr (.inl e))
  have hg2 := (hcE.block g h.lt sE).trans h.cell
  have hset1 : Chg (fun i => i = g) w2 (w2.setCell ⟨g, 1, none⟩ (.slice E1 (I.length + 1) ce1)) := (Chg.refl _ _).set g 1 _ (fun _ => rfl)
  have hg3 := heap_setCell_same w2 g 1 _ _ (.slice E1 (I.length + 1) ce1) hg2
  have hlt2 : g < w2.heap.size := Nat.lt_of_lt_of_le h.lt hcE.size
  have hg4 := (hb.block g hlt2).trans hg3
  have hlt4 : w2.heap.size ≤ w4.heap.size := by have := hb.size; rw [size_set] at this; exact this
  have hg5 := (hcB.block g (Nat.lt_of_lt_of_le hlt2 hlt4) sB).trans hg4
  have hset2 : Chg (fun i => i = g) w5 (w5.setCell ⟨g, 2, none⟩ (.slice B1 (I.length + 1) d1)) := (Chg.refl _ _).set g 2 _ (fun _ => rfl)
  have hg6 := heap_setCell_same w5 g 2 _ _ (.slice B1 (I.length + 1) d1) hg5
  have hb' : Chg (fun i => w2.heap.size ≤ i) (w2.setCell ⟨g, 1, none⟩ (.slice E1 (I.length + 1) ce1)) w4 := Chg.of_belowB hb
  have hall : Chg (fun i => blk E = some i ∨ i = g ∨ blk B = some i) w1 (w5.setCell ⟨g, 2, none⟩ (.slice B1 (I.length + 1) d1)) :=
    ((((hcE.mono (fun i _ e => .inl e)).trans hset1 (fun i _ e => .inr (.inl e))).trans hb' (fun i hi e => by have := hcE.size; omega)).trans hcB (fun i _ e => .inr (.inr e))).trans hset2 (fun i _ e => .inr (.inl e))
  have hfrom2 : Chg (fun i => i = g ∨ blk B = some i) w2 (w5.setCell ⟨g, 2, none⟩ (.slice B1 (I.length + 1) d1)) :=
    (((hset1.mono (fun i _ e => .inl e)).trans hb' (fun i hi e => by omega)).trans hcB (fun i _ e => .inr e)).trans hset2 (fun i _ e => .inl e)
  have ltB : ∀ k, blk B = some k → k < w1.heap.size := fun k e => h.img.foot k (.inr (.inl e))
  have ltE : ∀ k, blk E = some k → k < w1.heap.size := fun k e => h.img.foot k (.inl e)
  have ltE1 : ∀ k, blk E1 = some k → k < w2.heap.size := fun k e => (World.ownsRow.lt hE k (by rw [ownBlock_slice]; exact e)).2
  have gl := h.lt
  have sz1 := hcE.size
  have E1g : blk E1 ≠ some g := fun e => by
    rcases hkE g e with h1 | h1
    · exact sE h1
    · omega
  have B1g : blk B1 ≠ some g := fun e => by
    rcases hkB g e with h1 | h1
    · exact sB h1
    · omega
  have E1B : ∀ k, blk E1 = some k → blk B ≠ some k := fun k e e2 => by
    rcases hkE k e with h1 | h1
    · exact h.img.two k h1 e2
    · have := ltB k e2; omega
  have hmlt : ∀ k, blk m.A = some k → k < w1.heap.size := fun k e => hm.lt e
  have sepm : ∀ x ∈ I ++ [m], ∀ k, blk x.A = some k → blk B ≠ some k ∧ blk E ≠ some k ∧ k < w1.heap.size ∧ k ≠ g := fun x hx k e => by
    rcases List.mem_append.1 hx with hx | hx
    · exact ⟨(h.img.sep x hx k e).1, (h.img.sep x hx k e).2, (h.img.lies x hx).lt e, fun eg => h.s2 (.inr (.inr ⟨x, hx, eg ▸ e⟩))⟩
    · obtain rfl := List.mem_singleton.1 hx
      exact ⟨fun e2 => hmF k e (.inr (.inr (.inr (.inl e2)))), fun e2 => hmF k e (.inr (.inr (.inl e2))), hmlt k e, fun eg => hmF k e (.inl eg)⟩
  have hF : ∀ i, JTabF E1 B1 (I ++ [m]) i → JTabF E B I i ∨ w1.heap.size ≤ i ∨ blk m.A = some i := by
    rintro i (hi | hi | ⟨x, hx, hi⟩)
    · exact (hkE i hi).imp (fun e => .inl e) (fun e => .inl e)
    · exact (hkB i hi).imp (fun e => .inr (.inl e)) (fun e => .inl (by omega))
    · rcases List.mem_append.1 hx with hx | hx
      · exact .inl (.inr (.inr ⟨x, hx, hi⟩))
      · exact .inr (.inr (by rw [← List.mem_singleton.1 hx]; exact hi))
  have el : (I ++ [m]).length = I.length + 1 := by simp
  have ee : eps (I ++ [m]) = eps I ++ [m.e] := by simp [eps]
  have hT : Tab (w5.setCell ⟨g, 2, none⟩ (.slice B1 (I.length + 1) d1)) A c T := h.tab.chg hall (fun i hi e => by
    rcases e with e | e | e
    · exact h.s3 i hi (.inl e)
    · exact h.s1 (e ▸ hi)
    · exact h.s3 i hi (.inr (.inl e)))
  have hJ : JTab (w5.setCell ⟨g, 2, none⟩ (.slice B1 (I.length + 1) d1)) E1 ce1 B1 d1 (I ++ [m]) := by
    refine ⟨?_, ?_, fun x hx => ?_, fun x hx k e => ?_, fun k e e2 => ?_⟩
    · rw [el, ee]
      exact ownsRow_chg hE hfrom2 (fun k hk e => by
        rw [ownBlock_slice] at hk
        rcases e with e | e
        · exact E1g (e ▸ hk)
        · exact E1B k hk e)
    · rw [el]
      exact ownsRow_chg hB hset2 (fun k hk e => by rw [ownBlock_slice] at hk; exact B1g (e ▸ hk))
    · have key : ∀ k, blk x.A = some k → ¬ (blk E = some k ∨ k = g ∨ blk B = some k) := fun k e h2 => by
        obtain ⟨h3, h4, _, h5⟩ := sepm x hx k e
        rcases h2 with h2 | h2 | h2
        · exact h4 h2
        · exact h5 h2
        · exact h3 h2
      rcases List.mem_append.1 hx with hx | hx
      · exact (h.img.lies x hx).chg hall key
      · obtain rfl := List.mem_singleton.1 hx
        exact hm.chg hall key
    · obtain ⟨h3, h4, h5, _⟩ := sepm x hx k e
      refine ⟨fun e2 => ?_, fun e2 => ?_⟩
      · rcases hkB k e2 with h6 | h6
        · exact h3 h6
        · omega
      · rcases hkE k e2 with h6 | h6
        · exact h4 h6
        · omega
    · rcases hkB k e2 with h6 | h6
      · exact E1B k e h6
      · have := ltE1 k e; omega
  refine ⟨⟨?_, hT, hJ, h.s1, fun e => ?_, fun i hi hj => ?_⟩, ?_, ?_⟩
  · rw [el]; exact hg6
  · rcases hF g e with h1 | h1 | h1
    · exact h.s2 h1
    · omega
    · exact (sepm m (by simp) g h1).2.2.2 rfl
  · rcases hF i hj with h1 | h1 | h1
    · exact h.s3 i hi h1
    · have := h.tab.foot i hi; omega
    · exact hmF i h1 (.inr (.inl hi))
  · rintro i (hi | hi | hi)
    · exact .inl (.inl hi)
    · exact .inl (.inr (.inl hi))
    · rcases hF i hi with h1 | h1 | h1
      · exact .inl (.inr (.inr h1))
      · exact .inr (.inl h1)
      · exact .inr (.inr h1)
  · exact hall.mono (fun i _ e => by
      rcases e with e | e | e
      · exact .inr (.inr (.inl e))
      · exact .inl e
      · exact .inr (.inr (.inr (.inl e))))

/-- One row more in a row of rows. -/
theorem wpList_append_js {w : World} {ops : Array Oper} {rest : List Oper} {o : Oper} {a : Act} {Q : Exit → Act → World → Prop} (hgd : o.guard = none) (s x : Operand)
    (ho : o.op = .call { callee := .builtin .append, args := #[s, x], argTypes := #[85, 85] })
    (B : Option Addr) (d : Nat) (I : List IM) (hs : a.eval s = .slice B I.length d) (hi : w.ownsRow 0 22 1 (.slice B I.length d) I.length (jvs I)) (m : IM)
    (g : Nat) (hx : a.eval x = .slice (some ⟨g, 0, none⟩) 1 1) (hy : Reads w 1 (some ⟨g, 0, none⟩) 1 (jvs [m])) (hlen : I.length + 1 ≤ 100000)
    (h : ∀ B1 d1 w1, w1.ownsRow 0 22 1 (.slice B1 (I.length + 1) d1) (I.length + 1) (jvs (I ++ [m])) → Chg (fun i => blk B = some i) w w1 → (∀ k, blk B1 = some k → blk B = some k ∨ k = w.heap.size) → wpList Try.prog ops Q rest (a.put o.dst (.slice B1 (I.length + 1) d1)) w1) : wpList Try.prog ops Q (o :: rest) a w := by
  obtain ⟨i0, hi0, hz0, hz1, hz2⟩ := info_parts info_sl
  refine wpList_append_any w hgd s x 85 ho 0 22 i0 _ 1 24 Try.underlying85 hi0 hz0 hz1 hz2 rfl (by omega) _ _ _ hs hi (some ⟨g, 0, none⟩) _ 1 _ hx hy (oneCell_jvs _) (by unfold maxLen; omega) (by omega) (Nat.zero_le _) ?_
  intro v' w' h1 h2 h3
  obtain ⟨A1, c1, rfl, _⟩ := own_slice h1
  rw [ownBlock_slice] at h2
  rw [← jvs_append] at h1
  refine h A1 c1 w' h1 ⟨h2.os, h2.tape, h2.output, h2.size, fun i hi hF => h2.block i hi (fun e => hF e.symm)⟩ fun k hk => ?_
  rw [ownBlock_slice, ownBlock_slice] at h3
  rcases h3 with h3 | h3
  · exact .inl (h3 ▸ hk)
  · rw [hk] at h3; exact .inr (Option.some.inj h3)

/-- One epoch more. -/
theorem wpList_append_ep {w : World} {ops : Array Oper} {rest : List Oper} {o : Oper} {a : Act} {Q : Exit → Act → World → Prop} (hgd : o.guard = none) (s x : Operand)
    (ho : o.op = .call { callee := .builtin .append, args := #[s, x], argTypes := #[83, 83] })
    (B : Option Addr) (d : Nat) (I : List IM) (hs : a.eval s = .slice B I.length d) (hi : w.ownsRow 0 57 1 (.slice B I.length d) I.length (nvs (eps I))) (e : Nat)
    (g : Nat) (hx : a.eval x = .slice (some ⟨g, 0, none⟩) 1 1) (hy : Reads w 1 (some ⟨g, 0, none⟩) 1 (nvs [e])) (hlen : I.length + 1 ≤ 100000)
    (h : ∀ B1 d1 w1, w1.ownsRow 0 57 1 (.slice B1 (I.length + 1) d1) (I.length + 1) (nvs (eps I ++ [e])) → Chg (fun i => blk B = some i) w w1 → (∀ k, blk B1 = some k → blk B = some k ∨ k = w.heap.size) → wpList Try.prog ops Q rest (a.put o.dst (.slice B1 (I.length + 1) d1)) w1) : wpList Try.prog ops Q (o :: rest) a w := by
  obtain ⟨i0, hi0, hz0, hz1, hz2⟩ := info_parts info_nu
  refine wpList_append_any w hgd s x 83 ho 0 57 i0 _ 1 8 Try.underlying83 hi0 hz0 hz1 hz2 rfl (by omega) _ _ _ hs hi (some ⟨g, 0, none⟩) _ 1 _ hx hy (oneCell_nvs _) (by unfold maxLen; omega) (by omega) (Nat.zero_le _) ?_
  intro v' w' h1 h2 h3
  obtain ⟨A1, c1, rfl, _⟩ := own_slice h1
  rw [ownBlock_slice] at h2
  rw [← nvs_append] at h1
  refine h A1 c1 w' h1 ⟨h2.os, h2.tape, h2.output, h2.size, fun i hi hF => h2.block i hi (fun e => hF e.symm)⟩ fun k hk => ?_
  rw [ownBlock_slice, ownBlock_slice] at h3
  rcases h3 with h3 | h3
  · exact .inl (h3 ▸ hk)
  · rw [hk] at h3; exact .inr (Option.some.inj h3)

set_option maxHeartbeats 4000000 in
set_option maxRecDepth 100000 in
theorem refSeal_any (h : RPM w g A c T E ce B d I) (hlen : ∀ k (hk : k < T.length), T[k].xs.length ≤ 100000) (hT : T.length ≤ 90000) (hI : I.length ≤ 90000) (e : Nat) :
    Calls Try.prog 55 #[.pointer (some ⟨g, 0, none⟩), .int .u64 (e : Int)] w fun x w' => x = .returned (.int .i64 (sealE (imgs I) e : Nat)) ∧
      ∃ E' ce' B' d' I', RPM w' g A c T E' ce' B' d' I' ∧ imgs I' = sealI (texts T) (imgs I) e ∧ (∀ i, RPF g A T E' B' I' i → RPF g A T E B I i ∨ w.heap.size ≤ i) ∧ Chg (RPF g A T E B I) w w' := by
  obtain ⟨c0, c1, c2, f0, f1, f2⟩ := cells3 h.cell
  have Hp := Lib.hid h
  have Hlen := Lib.hid hlen
  have Hl90 := Lib.hid hI
  clear h hlen
  by_cases hle : e ≤ topE (imgs I)
  · have HE := Lib.hid (show sealE (imgs I) e = 14 ∧ sealI (texts T) (imgs I) e = imgs I from ⟨by unfold sealE; rw [if_pos hle], by unfold sealI; rw [if_pos hle]⟩)
    by_cases he0 : e = 0
    · have hz : ((e : Int) == 0) = true := by subst he0; rfl
      have q1 := fun w' (hk : KeepsBut [] w.drew w') => hk.cell (p := ⟨g, 1, none⟩) c1 (by simp)
      have Hd := Lib.hid (Hp.out.below ((Below.refl w.heap.size w).drew))
      clear hle he0
      go_enter Try.func55, Try.ntmps55
      go_wp2_with fail
      refine wp_region_mix3 (KeepsBut []) (KeepsBut.refl []) (KeepsBut.trans []) [] [(0, 0), (0, 1), (0, 2), (0, 3), (0, 4), (0, 5), (1, 6), (0, 7), (0, 8), (0, 9), (0, 10), (0, 11), (0, 12), (0, 13), (0, 15), (0, 16), (0, 17), (1, 14), (1, 18), (0, 19), (0, 20), (0, 21), (1, 22), (0, 23), (0, 24), (0, 25)] (by kernel_rfl) (by kernel_rfl) (fun d _ _ _ _ h => by cases d <;> exact h) ?_
      repeat (first
        | (refine mix3_free (v := ?_) rfl rfl ?_ (mix3_norm (a' := ?_) ?_ ?_)
           rotate_left
           focus (intro w'; go_simp; first | done | (with_reducible rfl))
           rotate_left
           focus (simp only [Act.put, List.getElem_toArray, List.getElem_cons_zero, List.getElem_cons_succ, List.setIfInBounds_toArray, List.set_cons_zero, List.set_cons_succ]; rfl))
        | (refine mix3_pure (v := ?_) rfl rfl ?_ (mix3_norm (a' := ?_) ?_ ?_)
           rotate_left
           focus (intro w' hR; go_simp; first | done | (with_reducible rfl))
           rotate_left
           focus (simp only [Act.put, List.getElem_toArray, List.getElem_cons_zero, List.getElem_cons_succ, List.setIfInBounds_toArray, List.set_cons_zero, List.set_cons_succ]; rfl))
        | (refine mix3_freeOff rfl rfl (mix3_norm (a' := ?_) ?_ ?_)
           rotate_left
           focus (simp only [Act.put, List.getElem_toArray, List.getElem_cons_zero, List.getElem_cons_succ, List.setIfInBounds_toArray, List.set_cons_zero, List.set_cons_succ]; rfl))
        | (refine mix3_off rfl rfl (mix3_norm (a' := ?_) ?_ ?_)
           rotate_left
           focus (simp only [Act.put, List.getElem_toArray, List.getElem_cons_zero, List.getElem_cons_succ, List.setIfInBounds_toArray, List.set_cons_zero, List.set_cons_succ]; rfl)))
      refine mix3_done ?_
      go_wp2_with fail
      go_ret
      exact ⟨by rw [HE.out.1]; rfl, E, ce, B, d, I, Hd.out, HE.out.2.symm, fun _ h => .inl h, (Chg.refl _ _).drew⟩
    · have hI0 : 0 < I.length := by
        rcases Nat.eq_zero_or_pos I.length with h | h
        · have : I = [] := List.eq_nil_of_length_eq_zero h
          subst this
          exact absurd (show e ≤ 0 from hle) (by omega)
        · exact h
      have hz : ((e : Int) == 0) = false := by rw [beq_eq_false_iff_ne]; omega
      obtain ⟨j, hj⟩ : ∃ j, I.length = j + 1 := ⟨I.length - 1, by omega⟩
      have hjl : j < I.length := by omega
      obtain ⟨b, rfl, d0⟩ := Hp.out.img.ecell hjl
      have ht : topE (imgs I) = I[j].e := by
        unfold topE
        rw [List.getLastD_eq_getLast?, List.getLast?_eq_getElem?, List.length_map, imgs_length, show I.length - 1 = j by omega]
        simp [imgs, hjl]
      rw [ht] at hle
      have hleI : (e : Int) ≤ (I[j].e : Int) := by omega
      generalize I[j].e = t at d0 hleI
      have hgt : (0 : Int) < (I.length : Int) := by omega
      have hjI : (j : Int) < (I.length : Int) := by omega
      have ew : IntKind.i64.wrap ((I.length : Int) - 1) = (j : Int) := by rw [IntWalk.i64_in ((I.length : Int) - 1) ⟨by omega, by omega⟩]; omega
      have q1 := fun w' (hk : KeepsBut [] w.drew w') => hk.cell (p := ⟨g, 1, none⟩) c1 (by simp)
      have q2 := fun w' (hk : KeepsBut [] w.drew w') => hk.cell (p := ⟨b, j, none⟩) d0 (by simp)
      have Hd := Lib.hid (Hp.out.below ((Below.refl w.heap.size w).drew))
      clear hle he0 ht hj
      go_enter Try.func55, Try.ntmps55
      go_wp2_with fail
      refine wp_region_mix3 (KeepsBut []) (KeepsBut.refl []) (KeepsBut.trans []) [] [(0, 0), (0, 1), (0, 2), (0, 3), (0, 4), (0, 5), (1, 6), (0, 7), (0, 8), (0, 9), (0, 10), (0, 11), (0, 12), (0, 13), (0, 15), (0, 16), (0, 17), (1, 14), (1, 18), (0, 19), (0, 20), (0, 21), (1, 22), (0, 23), (0, 24), (0, 25)] (by kernel_rfl) (by kernel_rfl) (fun d _ _ _ _ h => by cases d <;> exact h) ?_
      repeat (first
        | (refine mix3_free (v := ?_) rfl rfl ?_ (mix3_norm (a' := ?_) ?_ ?_)
           rotate_left
           focus (intro w'; go_simp; first | done | (with_reducible rfl))
           rotate_left
           focus (simp only [Act.put, List.getElem_toArray, List.getElem_cons_zero, List.getElem_cons_succ, List.setIfInBounds_toArray, List.set_cons_zero, List.set_cons_succ]; rfl))
        | (refine mix3_pure (v := ?_) rfl rfl ?_ (mix3_norm (a' := ?_) ?_ ?_)
           rotate_left
           focus (intro w' hR; go_simp; first | done | (with_reducible rfl))
           rotate_left
           focus (simp only [Act.put, List.getElem_toArray, List.getElem_cons_zero, List.getElem_cons_succ, List.setIfInBounds_toArray, List.set_cons_zero, List.set_cons_succ]; rfl))
        | (refine mix3_freeOff rfl rfl (mix3_norm (a' := ?_) ?_ ?_)
           rotate_left
           focus (simp only [Act.put, List.getElem_toArray, List.getElem_cons_zero, List.getElem_cons_succ, List.setIfInBounds_toArray, List.set_cons_zero, List.set_cons_succ]; rfl))
        | (refine mix3_off rfl rfl (mix3_norm (a' := ?_) ?_ ?_)
           rotate_left
           focus (simp only [Act.put, List.getElem_toArray, List.getElem_cons_zero, List.getElem_cons_succ, List.setIfInBounds_toArray, List.set_cons_zero, List.set_cons_succ]; rfl)))
      refine mix3_done ?_
      go_wp2_with fail
      go_ret
      exact ⟨by rw [HE.out.1]; rfl, _, ce, B, d, I, Hd.out, HE.out.2.symm, fun _ h => .inl h, (Chg.refl _ _).drew⟩
  · have HE := Lib.hid (show sealE (imgs I) e = 0 ∧ sealI (texts T) (imgs I) e = imgs I ++ [(e, (texts T).map lastS)] from ⟨by unfold sealE; rw [if_neg hle], by unfold sealI; rw [if_neg hle]⟩)
    have he0 : e ≠ 0 := fun h => hle (by omega)
    have hz : ((e : Int) == 0) = false := by rw [beq_eq_false_iff_ne]; omega
    have q1 := fun w' (hk : KeepsBut [] w.drew w') => hk.cell (p := ⟨g, 1, none⟩) c1 (by simp)
    have Hd := Lib.hid (Hp.out.below ((Below.refl w.heap.size w).drew))
    have hcase : (I.length = 0 ∧ decide (0 < I.length) = false) ∨ ∃ (j b t : Nat), 0 < I.length ∧ (0 : Int) < (I.length : Int) ∧ (j : Int) < (I.length : Int) ∧ IntKind.i64.wrap ((I.length : Int) - 1) = (j : Int) ∧ E = some ⟨b, 0, none⟩ ∧ w.cell? ⟨b, j, none⟩ = some (.int .u64 (t : Int)) ∧ ¬ (e : Int) ≤ (t : Int) := by
      rcases Nat.eq_zero_or_pos I.length with h | h
      · exact .inl ⟨h, decide_eq_false (by omega)⟩
      · right
        obtain ⟨j, hj⟩ : ∃ j, I.length = j + 1 := ⟨I.length - 1, by omega⟩
        have hjl : j < I.length := by omega
        obtain ⟨b, hb, d0⟩ := Hp.out.img.ecell hjl
        have ht : topE (imgs I) = I[j].e := by
          unfold topE
          rw [List.getLastD_eq_getLast?, List.getLast?_eq_getElem?, List.length_map, imgs_length, show I.length - 1 = j by omega]
          simp [imgs, hjl]
        exact ⟨j, b, I[j].e, h, by omega, by omega, by rw [IntWalk.i64_in ((I.length : Int) - 1) ⟨by omega, by omega⟩]; omega, hb, d0, by omega⟩
    clear hle he0
    have hcase2 : (decide (0 < I.length) = false ∧ True) ∨ ∃ (j b t : Nat), 0 < I.length ∧ (0 : Int) < (I.length : Int) ∧ (j : Int) < (I.length : Int) ∧ IntKind.i64.wrap ((I.length : Int) - 1) = (j : Int) ∧ E = some ⟨b, 0, none⟩ ∧ (∀ w', KeepsBut [] w.drew w' → w'.cell? ⟨b, j, none⟩ = some (.int .u64 (t : Int))) ∧ decide (e ≤ t) = false := by
      rcases hcase with ⟨h1, h2⟩ | ⟨j, b, t, h0, hgt, hjI, ew, hE, d0, hleI⟩
      · exact .inl ⟨h2, trivial⟩
      · exact .inr ⟨j, b, t, h0, hgt, hjI, ew, hE, fun w' hk => hk.cell (p := ⟨b, j, none⟩) d0 (by simp), decide_eq_false (by omega)⟩
    clear hcase c1
    rcases hcase2 with ⟨hd0, q2⟩ | ⟨j, b, t, h0, hgt, hjI, ew, rfl, q2, hd0⟩
    rotate_left
    all_goals
      go_enter Try.func55, Try.ntmps55
      go_wp2_with fail
      refine wp_region_mix3 (KeepsBut []) (KeepsBut.refl []) (KeepsBut.trans []) [] [(0, 0), (0, 1), (0, 2), (0, 3), (0, 4), (0, 5), (1, 6), (0, 7), (0, 8), (0, 9), (0, 10), (0, 11), (0, 12), (0, 13), (0, 15), (0, 16), (0, 17), (1, 14), (1, 18), (0, 19), (0, 20), (0, 21), (1, 22), (0, 23), (0, 24), (0, 25)] (by kernel_rfl) (by kernel_rfl) (fun d _ _ _ _ h => by cases d <;> exact h) ?_
      repeat (first
        | (refine mix3_free (v := ?_) rfl rfl ?_ (mix3_norm (a' := ?_) ?_ ?_)
           rotate_left
           focus (intro w'; go_simp; first | done | (with_reducible rfl))
           rotate_left
           focus (simp only [Act.put, List.getElem_toArray, List.getElem_cons_zero, List.getElem_cons_succ, List.setIfInBounds_toArray, List.set_cons_zero, List.set_cons_succ]; rfl))
        | (refine mix3_pure (v := ?_) rfl rfl ?_ (mix3_norm (a' := ?_) ?_ ?_)
           rotate_left
           focus (intro w' hR; go_simp; first | done | (with_reducible rfl))
           rotate_left
           focus (simp only [Act.put, List.getElem_toArray, List.getElem_cons_zero, List.getElem_cons_succ, List.setIfInBounds_toArray, List.set_cons_zero, List.set_cons_succ]; rfl))
        | (refine mix3_freeOff rfl rfl (mix3_norm (a' := ?_) ?_ ?_)
           rotate_left
           focus (simp only [Act.put, List.getElem_toArray, List.getElem_cons_zero, List.getElem_cons_succ, List.setIfInBounds_toArray, List.set_cons_zero, List.set_cons_succ]; rfl))
        | (refine mix3_off rfl rfl (mix3_norm (a' := ?_) ?_ ?_)
           rotate_left
           focus (simp only [Act.put, List.getElem_toArray, List.getElem_cons_zero, List.getElem_cons_succ, List.setIfInBounds_toArray, List.set_cons_zero, List.set_cons_succ]; rfl)))
      refine mix3_done ?_
      clear q1 q2
      try clear hd0
      go_wp2_with fail
      go_loopw [5, 6] (fun v i wr => ∃ (k : Nat) (A1 : Option Addr) (c1 : Nat) (xs : List ByteArray), k ≤ T.length ∧ v = .slice A1 xs.length c1 ∧ i = .int .i64 k ∧ Hid (xs = ((texts T).map lastS).take k ∧ xs.length = k) ∧ Hid (StrOut w.drew wr A1 c1 xs)) (fun _ i _ => T.length - (intOf i).toNat)
      case atStart => exact ⟨0, none, 0, [], Nat.zero_le _, rfl, rfl, Lib.hid ⟨rfl, rfl⟩, Lib.hid (StrOut.nil _)⟩
      case round =>
        obtain ⟨k, A1, c3, xs, hk, rfl, rfl, HX, HS⟩ := hrel
        have HMr := Lib.hid (Hd.out.below HS.out.2.2)
        obtain ⟨e0, e1, e2, k0, k1, k2⟩ := cells3 HMr.out.cell
        by_cases hlt : k < T.length
        · have HL := Lib.hid (refLast_any HMr.out Hlen.out (k : Int))
          have hx : lastP (texts T) (k : Int) = lastS T[k].xs := by
            unfold lastP
            rw [if_pos (by unfold inP; rw [texts_length]; omega), Int.toNat_natCast, texts_get T k hlt]
          rw [hx] at HL
          have HX2 : Hid (xs ++ [lastS T[k].xs] = ((texts T).map lastS).take (k + 1)) := Lib.hid (by
            rw [HX.out.1, List.take_succ_eq_append_getElem (by rw [List.length_map, texts_length]; exact hlt)]
            simp [texts])
          generalize lastS T[k].xs = s at HL HX2
          have hb2 : Below wr.heap.size wr (wr.alloc (.cells #[.string s] 9)) := (alloc1 wr _ _).1
          have HS2 := Lib.hid (HS.out.keep hb2)
          have HR := Lib.hid (show Reads (wr.alloc (.cells #[.string s] 9)) 1 (some ⟨wr.heap.size, 0, none⟩) 1 (sts [s]) from Reads.of_block (n := 1) (heap_alloc_new wr _) rfl)
          have Hlen2 := Lib.hid (show xs.length + 1 ≤ 100000 by have := HX.out.2; omega)
          have hkI : (k : Int) < (T.length : Int) := by omega
          clear hx hb2
          go_wp2_with fail
          refine HL.out.mono ?_
          rintro x w1 ⟨rfl, rfl⟩
          go_wp2_with (at_builtin; refine wpList_append_st rfl (.tmp 50) (.tmp 52) rfl A1 c3 xs rfl HS2.out.1 (some ⟨wr.heap.size, 0, none⟩) 1 [s] 1 rfl rfl HR.out Hlen2.out ?_)
          intro A2 c4 w2 hrow hchg hblk
          have Hout := Lib.hid (HS2.out.grow hrow hchg (fun k hk => by
            rcases hblk k hk with h | h
            · exact .inl h
            · right; have := HS.out.2.2.size; omega))
          clear hrow hchg hblk e0 e1 e2 k0 k1 k2
          go_wp2_with fail
          case roundEnd =>
            exact ⟨⟨k + 1, A2, c4, xs ++ [s], by omega, by simp, by push_cast; rfl, Lib.hid ⟨HX2.out, by simp [HX.out.2]⟩, Hout⟩, by simp only [intOf]; omega⟩
        · obtain rfl : k = T.length := by omega
          have HXl := Lib.hid (show xs = (texts T).map lastS by rw [HX.out.1, List.take_of_length_le]; simp [texts])
          have hb1 := (alloc1 wr #[.int .u64 (e : Int)] 57).1
          have hg1 := (alloc1 wr #[.int .u64 (e : Int)] 57).2.1
          have HM1 := Lib.hid (HMr.out.below hb1)
          have HS1 := Lib.hid (HS.out.1.below hb1)
          have HR1 := Lib.hid (show Reads (wr.alloc (.cells #[.int .u64 (e : Int)] 57)) 1 (some ⟨wr.heap.size, 0, none⟩) 1 (nvs [e]) from Reads.of_block (n := 1) hg1 rfl)
          have Hsz := Lib.hid (show Below w.drew.heap.size w.drew (wr.alloc (.cells #[.int .u64 (e : Int)] 57)) from HS.out.2.2.trans (hb1.mono HS.out.2.2.size))
          have Hl1 := Lib.hid (show I.length + 1 ≤ 100000 by omega)
          clear hb1 hg1 e2
          go_wp2_with (at_builtin; refine wpList_append_ep rfl (.tmp 58) (.tmp 60) rfl _ ce I rfl HM1.out.img.ep e wr.heap.size rfl HR1.out Hl1.out ?_)
          intro E1 ce1 w2 hE hcE hkE
          have hlt1 := HM1.out.lt
          have sE := fun e => HM1.out.s2 (.inl e)
          have hg2 := (hcE.block g hlt1 sE).trans HM1.out.cell
          obtain ⟨_, c1, c2, f0, f1, f2⟩ := cells3 hg2
          have hg3 := heap_setCell_same w2 g 1 _ _ (.slice E1 (I.length + 1) ce1) hg2
          have hset : Chg (fun i => i = g) w2 (w2.setCell ⟨g, 1, none⟩ (.slice E1 (I.length + 1) ce1)) := (Chg.refl _ _).set g 1 _ (fun _ => rfl)
          have hbj := ownsRow_chg (ownsRow_chg HM1.out.img.row hcE (fun k hk e => by rw [ownBlock_slice] at hk; exact HM1.out.img.two k e hk)) hset (fun k hk e => by rw [ownBlock_slice] at hk; exact HM1.out.s2 (.inr (.inl (e ▸ hk))))
          have hw4 := alloc1 (w2.setCell ⟨g, 1, none⟩ (.slice E1 (I.length + 1) ce1)) #[.slice A1 xs.length c3] 22
          have HB4 := Lib.hid (ownsRow_chg hbj (Chg.of_below (F := fun _ => False) hw4.1) (fun _ _ f => f))
          have HR4 := Lib.hid (show Reads ((w2.setCell ⟨g, 1, none⟩ (.slice E1 (I.length + 1) ce1)).alloc (.cells #[.slice A1 xs.length c3] 22)) 1 (some ⟨w2.heap.size, 0, none⟩) 1 (jvs [⟨e, A1, c3, xs⟩]) from by
            have h := hw4.2.1
            rw [size_set] at h
            exact Reads.of_block (n := 1) h rfl)
          have HE4 := Lib.hid (And.intro hE (And.intro hcE hkE))
          have Hw4 := Lib.hid (show Below w2.heap.size (w2.setCell ⟨g, 1, none⟩ (.slice E1 (I.length + 1) ce1)) ((w2.setCell ⟨g, 1, none⟩ (.slice E1 (I.length + 1) ce1)).alloc (.cells #[.slice A1 xs.length c3] 22)) by have h := hw4.1; rw [size_set] at h; exact h)
          obtain ⟨_, _, c3', _, _, f3'⟩ := cells3 hg3
          clear hE hcE hkE hg2 hg3 hset hbj hw4 sE e0 e1 k0 k1 k2
          have hlt2 : g < w2.heap.size := by have := HE4.out.2.1.size; omega
          go_wp2_with (at_builtin; refine wpList_append_js rfl (.tmp 68) (.tmp 70) rfl B d I rfl HB4.out ⟨e, A1, c3, xs⟩ w2.heap.size rfl HR4.out Hl1.out ?_)
          intro B1 d1 w5 hB hcB hkB
          obtain ⟨h1, h2, h3⟩ := HM1.out.seal (m := ⟨e, A1, c3, xs⟩) HS1.out (fun k hk hf => by have h1 := HS.out.2.1 k hk; have h2 := Hp.out.foot k hf; exact absurd h2 (Nat.not_lt.2 h1)) HE4.out.1 HE4.out.2.1 (fun k hk => (HE4.out.2.2 k hk).imp id (fun e => by rw [size_alloc]; omega)) Hw4.out hB hcB (fun k hk => (hkB k hk).imp id (fun e => by rw [size_alloc, size_set]; omega))
          have sB := fun e => HM1.out.s2 (.inr (.inl e))
          have hg4 := (hcB.block g (Nat.lt_of_lt_of_le hlt2 (by rw [size_alloc, size_set]; omega)) sB).trans ((Hw4.out.block g hlt2).trans (heap_setCell_same w2 g 1 _ _ (.slice E1 (I.length + 1) ce1) ((HE4.out.2.1.block g HM1.out.lt (fun e => HM1.out.s2 (.inl e))).trans HM1.out.cell)))
          obtain ⟨_, _, c5, _, _, f5⟩ := cells3 hg4
          have H1 := Lib.hid h1
          have H2 := Lib.hid (show ∀ i, RPF g A T E1 B1 (I ++ [⟨e, A1, c3, xs⟩]) i → RPF g A T _ B I i ∨ w.heap.size ≤ i from fun i hi => by
            rcases h2 i hi with h2 | h2 | h2
            · exact .inl h2
            · exact .inr (Nat.le_trans Hsz.out.size h2)
            · exact .inr (HS.out.2.1 i h2))
          have H3 := Lib.hid ((((Chg.refl _ w).drew).trans (Chg.of_below (F := fun _ => False) Hsz.out) (fun _ _ f => f.elim)).trans h3 (fun _ _ h => h))
          clear h1 h2 h3 hg4 hB hcB hkB c1 c2 f0 f1 f2 c3' f3'
          go_wp2_with fail
          go_ret
          exact ⟨by rw [HE.out.1]; rfl, E1, ce1, B1, d1, _, H1.out, by rw [HE.out.2, ← HXl.out]; simp [imgs], H2.out, H3.out⟩
end
end Go.Proofs.Ytiolfnnkkflaiaa
