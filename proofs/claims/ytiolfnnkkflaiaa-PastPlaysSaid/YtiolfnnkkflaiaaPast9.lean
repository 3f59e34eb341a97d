/- A past: an epoch's image is sealed. -/
import Derived.Test.YtiolfnnkkflaiaaPast8
import Derived.Test.YtiolfnnkkflaiaaNet3
open Go.RowKit
namespace Go.Proofs.Ytiolfnnkkflaiaa

theorem info_im : (Try.prog.info? 110).map (fun i => (i.zero, i.size, i.bytes)) = some (some (.agg #[.int .u64 0, .slice none 0 0]), 2, 32) := by kernel_rfl
theorem wpList_append_im {w : World} {ops : Array Oper} {rest : List Oper} {o : Oper} {a : Act} {Q : Exit → Act → World → Prop} (hgd : o.guard = none) (s x : Operand)
    (ho : o.op = .call { callee := .builtin .append, args := #[s, x], argTypes := #[101, 101] })
    (B : Option Addr) (d : Nat) (I : List IM) (hs : a.eval s = .slice B I.length d) (hi : ITab w B d I) (m : IM) (hl : SRow w m.A m.c m.xs) (hn : ∀ k, blk m.A = some k → ¬ ITabF B I k)
    (g : Nat) (hx : a.eval x = .slice (some ⟨g, 0, none⟩) 1 1) (hy : Reads w 2 (some ⟨g, 0, none⟩) 1 (ivs [m])) (hlen : I.length + 1 ≤ 100000)
    (h : ∀ B1 d1 w1, ITab w1 B1 d1 (I ++ [m]) → Chg (fun i => blk B = some i) w w1 → (∀ k, blk B1 = some k → blk B = some k ∨ k = w.heap.size) → wpList Try.prog ops Q rest (a.put o.dst (.slice B1 (I.length + 1) d1)) w1) : wpList Try.prog ops Q (o :: rest) a w := by
  obtain ⟨i0, hi0, hz0, hz1, hz2⟩ := info_parts info_im
  refine wpList_append_any w hgd s x 101 ho 0 110 i0 _ 2 32 Try.underlying101 hi0 hz0 hz1 hz2 rfl (by omega) _ _ _ hs hi.row (some ⟨g, 0, none⟩) _ 1 _ hx hy (oneCell_ivs _) (by unfold maxLen; omega) (by omega) (Nat.zero_le _) ?_
  intro v' w' h1 h2 h3
  obtain ⟨A1, c1, rfl, _⟩ := own_slice h1
  rw [ownBlock_slice] at h2
  have hll : I.length + 1 = (I ++ [m]).length := by simp
  have h1' := h1
  rw [← ivs_append] at h1'
  have hchg : Chg (fun i => blk B = some i) w w' := ⟨h2.os, h2.tape, h2.output, h2.size, fun i hi hF => h2.block i hi (fun e => hF e.symm)⟩
  have hblk : ∀ k, blk A1 = some k → blk B = some k ∨ k = w.heap.size := fun k hk => by
    rw [ownBlock_slice, ownBlock_slice] at h3
    rcases h3 with h3 | h3
    · exact .inl (h3 ▸ hk)
    · rw [hk] at h3; exact .inr (Option.some.inj h3)
  refine h A1 c1 w' ⟨by rw [← hll]; exact h1', fun x hx => ?_, fun x hx k hk e => ?_⟩ hchg hblk
  · rcases List.mem_append.1 hx with hx | hx
    · exact (hi.lies x hx).chg hchg (fun k hk e => hi.sep x hx k hk e)
    · obtain rfl := List.mem_singleton.1 hx
      exact hl.chg hchg (fun k hk e => hn k hk (.inl e))
  · rcases hblk k e with h6 | h6
    · rcases List.mem_append.1 hx with hx | hx
      · exact hi.sep x hx k hk h6
      · obtain rfl := List.mem_singleton.1 hx
        exact hn k hk (.inl h6)
    · rcases List.mem_append.1 hx with hx | hx
      · have := (hi.lies x hx).lt hk; omega
      · obtain rfl := List.mem_singleton.1 hx
        have := hl.lt hk; omega

def topE (I : List (Nat × List ByteArray)) : Nat := (I.map (·.1)).getLastD 0
def sealE (I : List (Nat × List ByteArray)) (e : Nat) : Nat := if e ≤ topE I then 14 else 0
def sealI (m : List (List ByteArray)) (I : List (Nat × List ByteArray)) (e : Nat) : List (Nat × List ByteArray) := if e ≤ topE I then I else I ++ [(e, m.map lastS)]
theorem getLastD_take {l : List Nat} {k : Nat} (hk : k < l.length) (z : Nat) : (l.take (k + 1)).getLastD z = l[k] := by
  rw [List.take_succ_eq_append_getElem hk, List.getLastD_eq_getLast?, List.getLast?_append]; rfl

section
variable {w w1 w2 : World} {g : Nat} {A : Option Addr} {c : Nat} {T : List TR} {B B1 : Option Addr} {d d1 : Nat} {I : List IM} {m : IM}
theorem PastM.seal (h : PastM w1 g A c T B d I) (hi : ITab w2 B1 d1 (I ++ [m])) (hc : Chg (fun i => blk B = some i) w1 w2) (hk : ∀ k, blk B1 = some k → blk B = some k ∨ k = w1.heap.size) (hm : ∀ k, blk m.A = some k → ¬ PastF g A T B I k) :
    PastM (w2.setCell ⟨g, 1, none⟩ (.slice B1 (I ++ [m]).length d1)) g A c T B1 d1 (I ++ [m]) ∧ (∀ i, PastF g A T B1 (I ++ [m]) i → PastF g A T B I i ∨ w1.heap.size ≤ i ∨ blk m.A = some i) ∧ Chg (PastF g A T B I) w1 (w2.setCell ⟨g, 1, none⟩ (.slice B1 (I ++ [m]).length d1)) := by
  have hgB : blk B ≠ some g := fun e => h.s2 (.inl e)
  have hg : w2.heap[g]? = some (.cells #[.slice A T.length c, .slice B I.length d] 103 (0, 0)) := (hc.block g h.lt hgB).trans h.cell
  have hset : Chg (fun i => i = g) w2 (w2.setCell ⟨g, 1, none⟩ (.slice B1 (I ++ [m]).length d1)) := (Chg.refl _ _).set g 1 _ (fun _ => rfl)
  have hF : ∀ i, ITabF B1 (I ++ [m]) i → ITabF B I i ∨ i = w1.heap.size ∨ blk m.A = some i := by
    rintro i (hi | ⟨x, hx, hi⟩)
    · rcases hk i hi with h1 | h1
      · exact .inl (.inl h1)
      · exact .inr (.inl h1)
    · rcases List.mem_append.1 hx with hx | hx
      · exact .inl (.inr ⟨x, hx, hi⟩)
      · exact .inr (.inr (by rw [← List.mem_singleton.1 hx]; exact hi))
  have hgF : ¬ ITabF B1 (I ++ [m]) g := fun e => by
    rcases hF g e with h1 | h1 | h1
    · exact h.s2 h1
    · have := h.lt; omega
    · exact hm g h1 (.inl rfl)
  have hT : Tab (w2.setCell ⟨g, 1, none⟩ (.slice B1 (I ++ [m]).length d1)) A c T := (h.tab.chg hc (fun i hi e => h.s3 i hi (.inl e))).chg hset (fun i hi e => h.s1 (e ▸ hi))
  refine ⟨⟨?_, hT, hi.chg hset (fun i hi e => hgF (e ▸ hi)), h.s1, hgF, fun i hi hj => ?_⟩, ?_, ?_⟩
  · exact heap_setCell_same w2 g 1 _ _ _ hg
  · rcases hF i hj with h1 | h1 | h1
    · exact h.s3 i hi h1
    · have := h.tab.foot i hi; omega
    · exact hm i h1 (.inr (.inl hi))
  · rintro i (hi | hi | hi)
    · exact .inl (.inl hi)
    · exact .inl (.inr (.inl hi))
    · rcases hF i hi with h1 | h1 | h1
      · exact .inl (.inr (.inr h1))
      · exact .inr (.inl (by omega))
      · exact .inr (.inr h1)
  · exact (hc.mono (fun i _ e => .inr (.inr (.inl e)))).trans hset (fun i _ e => .inl e)

theorem PastM.foot (h : PastM w g A c T B d I) : ∀ i, PastF g A T B I i → i < w.heap.size := fun i hi => by
  rcases hi with rfl | hi | hi
  · exact h.lt
  · exact h.tab.foot i hi
  · exact h.img.foot i hi
theorem Chg.of_belowB {k : Nat} (h : Below k w w1) : Chg (fun i => k ≤ i) w w1 := ⟨h.os, h.tape, h.output, h.size, fun i _ hF => h.block i (by omega)⟩

set_option maxHeartbeats 4000000 in
set_option maxRecDepth 100000 in
theorem pastSeal_any (h : PastM w g A c T B d I) (hlen : ∀ k (hk : k < T.length), T[k].xs.length ≤ 100000) (hT : T.length ≤ 90000) (hI : I.length ≤ 90000) (e : Nat) :
    Calls Try.prog 54 #[.pointer (some ⟨g, 0, none⟩), .int .u64 (e : Int)] w fun x w' => x = .returned (.int .i64 (sealE (imgs I) e : Nat)) ∧
      ∃ B' d' I', PastM w' g A c T B' d' I' ∧ imgs I' = sealI (texts T) (imgs I) e ∧ (∀ i, PastF g A T B' I' i → PastF g A T B I i ∨ w.heap.size ≤ i) ∧ Chg (PastF g A T B I) w w' := by
  obtain ⟨c0, c9, _, _⟩ := cells2 h.cell
  have Hp := Lib.hid h
  have Hlen := Lib.hid hlen
  clear h hlen
  go_enter Try.func54, Try.ntmps54
  go_wp2_with fail
  go_loopw [5, 18] (fun v i wr => ∃ (k t : Nat), k ≤ I.length ∧ v = .int .u64 t ∧ i = .int .i64 k ∧ Hid (t = (((imgs I).map (·.1)).take k).getLastD 0) ∧ Hid (Below w.heap.size w wr)) (fun _ i _ => I.length - (intOf i).toNat)
  case atStart => exact ⟨0, 0, Nat.zero_le _, rfl, rfl, Lib.hid rfl, Lib.hid (Below.refl _ _)⟩
  case round =>
    obtain ⟨k, t, hk, rfl, rfl, HO, Hb⟩ := hrel
    by_cases hlt : k < I.length
    · have Hi := Hp.out.img.chg (F := fun _ => False) (.of_below Hb.out) (fun _ _ f => f)
      obtain ⟨b, rfl, hb, d0, d1⟩ := Hi.cell hlt
      have HO2 : Hid (I[k].e = (((imgs I).map (·.1)).take (k + 1)).getLastD 0) := Lib.hid (by rw [getLastD_take (by rw [List.length_map, imgs_length]; exact hlt)]; simp [imgs])
      clear Hi
      generalize I[k] = m at d0 d1 HO2
      have Hb2 := Lib.hid (Hb.out.trans ((alloc1 wr #[.int .u64 (m.e : Int), .slice m.A m.xs.length m.c] 110).1.mono Hb.out.size))
      go_wp2_with fail
      case roundEnd =>
        exact ⟨⟨k + 1, m.e, by omega, rfl, by push_cast; rfl, HO2, Hb2⟩, by simp only [intOf]; omega⟩
    · obtain rfl : k = I.length := by omega
      have HT : Hid (t = topE (imgs I)) := Lib.hid (by rw [HO.out, List.take_of_length_le (by simp [imgs])]; rfl)
      by_cases hle : e ≤ t
      · have hleI : (e : Int) ≤ (t : Int) := by omega
        have HE := Lib.hid (show sealE (imgs I) e = 14 ∧ sealI (texts T) (imgs I) e = imgs I from ⟨by unfold sealE; rw [if_pos (by rw [← HT.out]; exact hle)], by unfold sealI; rw [if_pos (by rw [← HT.out]; exact hle)]⟩)
        clear hle c0 c9
        go_wp2_with fail
        go_ret
        exact ⟨by rw [HE.out.1]; rfl, B, d, I, Hp.out.chg (G := fun _ => False) (.of_below Hb.out) (fun _ _ f => f), HE.out.2.symm, fun _ h => .inl h, .of_below Hb.out⟩
      · have hleI : ¬ (e : Int) ≤ (t : Int) := by omega
        have HE := Lib.hid (show sealE (imgs I) e = 0 ∧ sealI (texts T) (imgs I) e = imgs I ++ [(e, (texts T).map lastS)] from ⟨by unfold sealE; rw [if_neg (by rw [← HT.out]; exact hle)], by unfold sealI; rw [if_neg (by rw [← HT.out]; exact hle)]⟩)
        obtain ⟨hb1, hg1, hs1⟩ := alloc1 wr #[.int .u64 (e : Int), .slice none 0 0] 110
        have HM := Lib.hid (Hp.out.chg (G := fun _ => False) (.of_below (Hb.out.trans (hb1.mono Hb.out.size))) (fun _ _ f => f))
        have c0 := (cells2 HM.out.cell).1
        have c9 := (cells2 HM.out.cell).2.1
        have Hg1 := Lib.hid hg1
        have Hs1 := Lib.hid hs1
        have HB1 := Lib.hid (Hb.out.trans (hb1.mono Hb.out.size))
        have Hgx := Lib.hid (show w.heap.size ≤ wr.heap.size from Hb.out.size)
        clear hle hb1 hg1 hs1 HO HT
        go_wp2_with fail
        generalize wr.alloc (.cells #[.int .u64 (e : Int), .slice none 0 0] 110) = wx at HM c0 c9 Hg1 Hs1 HB1 ⊢
        clear Hb
        generalize wr.heap.size = gx at Hg1 Hs1 Hgx ⊢
        have HF := Lib.hid (show ∀ i, PastF g A T B I i → i < gx from fun i hi => Nat.lt_of_lt_of_le (Hp.out.foot i hi) Hgx.out)
        clear c0 c9 wr
        go_loopw [35] (fun i wr => ∃ (k : Nat) (A1 : Option Addr) (c1 : Nat) (xs : List ByteArray), k ≤ T.length ∧ i = .int .i64 k ∧ Hid (xs = ((texts T).map lastS).take k ∧ xs.length = k) ∧ Hid (wr.heap[gx]? = some (.cells #[.int .u64 (e : Int), .slice A1 xs.length c1] 110 (0, 0))) ∧ Hid (SRow wr A1 c1 xs ∧ ∀ j, blk A1 = some j → gx < j) ∧ Hid (Below gx wx wr)) (fun i _ => T.length - (intOf i).toNat)
        case atStart => exact ⟨0, none, 0, [], Nat.zero_le _, rfl, Lib.hid ⟨rfl, rfl⟩, Hg1, Lib.hid ⟨SRow.nil _, fun j hj => by cases hj⟩, Lib.hid (Below.refl _ _)⟩
        case round =>
          obtain ⟨k, A1, c1, xs, hk, rfl, HX, HG, HS, HB⟩ := hrel
          have HMr := Lib.hid (HM.out.chg (Chg.of_belowB HB.out) (fun i hi e => by have := HF.out i hi; omega))
          by_cases hlt : k < T.length
          · obtain ⟨b, rfl, hb, d9, f0⟩ := HMr.out.tab.cell hlt
            obtain ⟨j, hj, hjl, e0⟩ := (HMr.out.tab.lies k hlt).last
            have hl1 := Hlen.out k hlt
            have ew : IntKind.i64.wrap ((T[k].xs.length : Int) - 1) = (j : Int) := by rw [IntWalk.i64_in ((T[k].xs.length : Int) - 1) ⟨by omega, by omega⟩]; omega
            have hjI : (j : Int) < (T[k].xs.length : Int) := by omega
            have d0 : wr.cell? ⟨b, k, none⟩ = some (.slice (some ⟨T[k].b, T[k].o, none⟩) T[k].xs.length T[k].c) := d9
            have HX2 : Hid (xs ++ [T[k].xs[j]] = ((texts T).map lastS).take (k + 1)) := Lib.hid (by
              rw [HX.out.1, List.take_succ_eq_append_getElem (by rw [List.length_map, texts_length]; exact hlt), ← lastS_at hj]
              simp [texts])
            generalize T[k].xs[j] = s at e0 HX2
            obtain ⟨g0, g1, k0, k1⟩ := cells2 HG.out
            have Hlen2 := Lib.hid (show xs.length + 1 ≤ 100000 by have := HX.out.2; omega)
            have hkI : (k : Int) < (T.length : Int) := by omega
            have Hj := Lib.hid hj
            have hb2 : Below wr.heap.size wr (wr.alloc (.cells #[.string s] 9)).drew := ((Below.refl wr.heap.size wr).alloc (Nat.le_refl _) _).drew
            have HS2 := Lib.hid (HS.out.1.below hb2)
            have HR := Lib.hid (show Reads (wr.alloc (.cells #[.string s] 9)).drew 1 (some ⟨wr.heap.size, 0, none⟩) 1 (sts [s]) from Reads.of_block (n := 1) (heap_alloc_new wr _) rfl)
            have Hb2 := Lib.hid hb2
            clear d9 hj hb2 f0
            go_wp2_with fail
            have q0 := fun w' (hk : KeepsBut [] wr.drew w') => hk.cell (p := ⟨gx, 1, none⟩) g1 (by simp)
            have q1 := fun w' (hk : KeepsBut [] wr.drew w') => hk.cell (p := ⟨T[k].b, T[k].o + j, none⟩) e0 (by simp)
            refine wp_region_mix3 (KeepsBut []) (KeepsBut.refl []) (KeepsBut.trans []) [9, 11] [(0, 0), (0, 2), (0, 3), (0, 4), (0, 5), (0, 6), (1, 1), (1, 7), (2, 8), (2, 9), (0, 10), (2, 11)] (by kernel_rfl) (by kernel_rfl) (fun d _ _ _ _ h => by cases d <;> exact h) ?_
            repeat (first
              | (refine mix3_free (v := ?_) rfl rfl ?_ (mix3_norm (a' := ?_) ?_ ?_)
                 rotate_left
                 focus (intro w'; go_simp; first | done | (with_reducible rfl))
                 rotate_left
                 focus (simp only [Act.put, List.getElem_toArray, List.getElem_cons_zero, List.getElem_cons_succ, List.setIfInBounds_toArray, List.set_cons_zero, List.set_cons_succ]; rfl))
              | (refine mix3_pure (v := ?_) rfl rfl ?_ (mix3_norm (a' := ?_) ?_ ?_)
                 rotate_left
                 focus (intro w' hR; go_simp; first | done | (with_reducible rfl))
                 rotate_left
                 focus (simp only [Act.put, List.getElem_toArray, List.getElem_cons_zero, List.getElem_cons_succ, List.setIfInBounds_toArray, List.set_cons_zero, List.set_cons_succ]; rfl))
              | (refine mix3_freeOff rfl rfl (mix3_norm (a' := ?_) ?_ ?_)
                 rotate_left
                 focus (simp only [Act.put, List.getElem_toArray, List.getElem_cons_zero, List.getElem_cons_succ, List.setIfInBounds_toArray, List.set_cons_zero, List.set_cons_succ]; rfl))
              | (refine mix3_off rfl rfl (mix3_norm (a' := ?_) ?_ ?_)
                 rotate_left
                 focus (simp only [Act.put, List.getElem_toArray, List.getElem_cons_zero, List.getElem_cons_succ, List.setIfInBounds_toArray, List.set_cons_zero, List.set_cons_succ]; rfl)))
            clear q0 q1 g0 g1 k0 k1
            refine mix3_eff rfl ?_
            simp only [List.getElem_toArray, List.getElem_cons_zero, List.getElem_cons_succ]
            go_wp2_with fail
            refine mixQ3_normal (keeps_alloc_drew _ _) rfl ?_
            refine mix3_eff rfl ?_
            simp only [List.getElem_toArray, List.getElem_cons_zero, List.getElem_cons_succ]
            refine wpList_append_st rfl (.tmp 40) (.tmp 47) rfl A1 c1 xs rfl HS2.out (some ⟨wr.heap.size, 0, none⟩) 1 [s] 1 rfl rfl HR.out Hlen2.out ?_
            intro A2 c2 w3 hrow hc hblk
            have hne : blk A1 ≠ some gx := fun h => by have := HS.out.2 gx h; omega
            have hgxl : gx < wr.heap.size := (Array.getElem?_eq_some_iff.1 HG.out).1
            have hg3 := (hc.block gx (Nat.lt_of_lt_of_le hgxl Hb2.out.size) hne).trans ((Hb2.out.block gx hgxl).trans HG.out)
            have hset : Chg (fun i => i = gx) w3 (w3.setCell ⟨gx, 1, none⟩ (.slice A2 (xs.length + 1) c2)) := (Chg.refl _ _).set gx 1 _ (fun _ => rfl)
            have hA2 : ∀ j, blk A2 = some j → gx < j := fun j hj => by
              rcases hblk j hj with h | h
              · exact HS.out.2 j h
              · have := Hb2.out.size; omega
            have Hg4 := Lib.hid (show (w3.setCell ⟨gx, 1, none⟩ (.slice A2 (xs.length + 1) c2)).heap[gx]? = _ from heap_setCell_same w3 gx 1 _ _ _ hg3)
            have HS4 := Lib.hid (show SRow (w3.setCell ⟨gx, 1, none⟩ (.slice A2 (xs.length + 1) c2)) A2 c2 (xs ++ [s]) from hrow.chg hset (fun j hj e => by have := hA2 j hj; omega))
            have HA4 := Lib.hid hA2
            have HB4 := Lib.hid (show Below gx wx (w3.setCell ⟨gx, 1, none⟩ (.slice A2 (xs.length + 1) c2)) from (HB.out.trans (Hb2.out.mono (by omega))).trans ((hc.below (fun i hi e => by have := HS.out.2 i e; omega) (by have := Hb2.out.size; omega)).trans (hset.below (fun i hi e => by omega) (by have := Hb2.out.size; have := hc.size; omega))))
            obtain ⟨_, _, _, k5⟩ := cells2 hg3
            obtain ⟨u5, d5⟩ : ∃ u, w3.cell? ⟨gx, 1, none⟩ = some u := ⟨_, (cells2 hg3).2.1⟩
            clear hrow hc hblk hne hgxl hg3 hset hA2
            go_wp2_with fail
            refine mixQ3_last (by simp) rfl ?_
            repeat (first
              | (refine mix3_free (v := ?_) rfl rfl ?_ (mix3_norm (a' := ?_) ?_ ?_)
                 rotate_left
                 focus (intro w'; go_simp; first | done | (with_reducible rfl))
                 rotate_left
                 focus (simp only [Act.put, List.getElem_toArray, List.getElem_cons_zero, List.getElem_cons_succ, List.setIfInBounds_toArray, List.set_cons_zero, List.set_cons_succ]; rfl))
              | (refine mix3_pure (v := ?_) rfl rfl ?_ (mix3_norm (a' := ?_) ?_ ?_)
                 rotate_left
                 focus (intro w' hR; go_simp; first | done | (with_reducible rfl))
                 rotate_left
                 focus (simp only [Act.put, List.getElem_toArray, List.getElem_cons_zero, List.getElem_cons_succ, List.setIfInBounds_toArray, List.set_cons_zero, List.set_cons_succ]; rfl))
              | (refine mix3_freeOff rfl rfl (mix3_norm (a' := ?_) ?_ ?_)
                 rotate_left
                 focus (simp only [Act.put, List.getElem_toArray, List.getElem_cons_zero, List.getElem_cons_succ, List.setIfInBounds_toArray, List.set_cons_zero, List.set_cons_succ]; rfl))
              | (refine mix3_off rfl rfl (mix3_norm (a' := ?_) ?_ ?_)
                 rotate_left
                 focus (simp only [Act.put, List.getElem_toArray, List.getElem_cons_zero, List.getElem_cons_succ, List.setIfInBounds_toArray, List.set_cons_zero, List.set_cons_succ]; rfl)))
            refine mix3_eff rfl ?_
            simp only [List.getElem_toArray, List.getElem_cons_zero, List.getElem_cons_succ]
            go_wp2_with fail
            refine mixQ3_last (by simp) rfl ?_
            refine mix3_done ?_
            clear d5 k5 d0 e0 ew
            go_wp2_with fail
            case roundEnd =>
              exact ⟨⟨k + 1, A2, c2, xs ++ [s], by omega, by push_cast; rfl, Lib.hid ⟨HX2.out, by simp [HX.out.2]⟩, Lib.hid (by rw [List.length_append]; exact Hg4.out), Lib.hid ⟨HS4.out, HA4.out⟩, HB4⟩, by simp only [intOf]; omega⟩
          · obtain rfl : k = T.length := by omega
            obtain ⟨g0, g1, k0, k1⟩ := cells2 HG.out
            have c2 := (cells2 HMr.out.cell).2.1
            have HXl := Lib.hid (show xs = (texts T).map lastS by rw [HX.out.1, List.take_of_length_le]; simp [texts])
            have hb2 : Below wr.heap.size wr (wr.alloc (.cells #[.int .u64 (e : Int), .slice A1 xs.length c1] 110)).drew := ((Below.refl wr.heap.size wr).alloc (Nat.le_refl _) _).drew
            have HM2 := Lib.hid (HMr.out.chg (G := fun _ => False) (.of_below hb2) (fun _ _ f => f))
            have HS2 := Lib.hid (HS.out.1.below hb2)
            have HR := Lib.hid (show Reads (wr.alloc (.cells #[.int .u64 (e : Int), .slice A1 xs.length c1] 110)).drew 2 (some ⟨wr.heap.size, 0, none⟩) 1 (ivs [⟨e, A1, c1, xs⟩]) from Reads.of_block (n := 1) (heap_alloc_new wr _) rfl)
            have Hb2 := Lib.hid hb2
            have Hm := Lib.hid (show ∀ k, blk A1 = some k → ¬ PastF g A T B I k from fun k hk hf => by have := HS.out.2 k hk; have := HF.out k hf; omega)
            have Hlen3 := Lib.hid (show I.length + 1 ≤ 100000 by omega)
            clear hb2
            go_wp2_with fail
            have q0 := fun w' (hk : KeepsBut [] wr.drew w') => hk.cell (p := ⟨g, 1, none⟩) c2 (by simp)
            have q1 := fun w' (hk : KeepsBut [] wr.drew w') => hk.cell (p := ⟨gx, 0, none⟩) g0 (by simp)
            have q2 := fun w' (hk : KeepsBut [] wr.drew w') => hk.cell (p := ⟨gx, 1, none⟩) g1 (by simp)
            refine wp_region_mix3 (KeepsBut []) (KeepsBut.refl []) (KeepsBut.trans []) [7, 10] [(0, 0), (0, 1), (0, 2), (0, 3), (1, 4), (1, 5), (2, 6), (2, 7), (0, 8), (0, 9), (2, 10)] (by kernel_rfl) (by kernel_rfl) (fun d _ _ _ _ h => by cases d <;> exact h) ?_
            repeat (first
              | (refine mix3_free (v := ?_) rfl rfl ?_ (mix3_norm (a' := ?_) ?_ ?_)
                 rotate_left
                 focus (intro w'; go_simp; first | done | (with_reducible rfl))
                 rotate_left
                 focus (simp only [Act.put, List.getElem_toArray, List.getElem_cons_zero, List.getElem_cons_succ, List.setIfInBounds_toArray, List.set_cons_zero, List.set_cons_succ]; rfl))
              | (refine mix3_pure (v := ?_) rfl rfl ?_ (mix3_norm (a' := ?_) ?_ ?_)
                 rotate_left
                 focus (intro w' hR; go_simp; first | done | (with_reducible rfl))
                 rotate_left
                 focus (simp only [Act.put, List.getElem_toArray, List.getElem_cons_zero, List.getElem_cons_succ, List.setIfInBounds_toArray, List.set_cons_zero, List.set_cons_succ]; rfl))
              | (refine mix3_freeOff rfl rfl (mix3_norm (a' := ?_) ?_ ?_)
                 rotate_left
                 focus (simp only [Act.put, List.getElem_toArray, List.getElem_cons_zero, List.getElem_cons_succ, List.setIfInBounds_toArray, List.set_cons_zero, List.set_cons_succ]; rfl))
              | (refine mix3_off rfl rfl (mix3_norm (a' := ?_) ?_ ?_)
                 rotate_left
                 focus (simp only [Act.put, List.getElem_toArray, List.getElem_cons_zero, List.getElem_cons_succ, List.setIfInBounds_toArray, List.set_cons_zero, List.set_cons_succ]; rfl)))
            clear q0 q1 q2 g0 g1 k0 k1
            refine mix3_eff rfl ?_
            simp only [List.getElem_toArray, List.getElem_cons_zero, List.getElem_cons_succ]
            go_wp2_with fail
            refine mixQ3_normal (keeps_alloc_drew _ _) rfl ?_
            refine mix3_eff rfl ?_
            simp only [List.getElem_toArray, List.getElem_cons_zero, List.getElem_cons_succ]
            refine wpList_append_im rfl (.tmp 55) (.tmp 57) rfl B d I rfl HM2.out.img ⟨e, A1, c1, xs⟩ HS2.out (fun k hk h => Hm.out k hk (.inr (.inr h))) wr.heap.size rfl HR.out Hlen3.out ?_
            intro B1 d1 w3 hi hc hk1
            obtain ⟨h1, h2, h3⟩ := HM2.out.seal hi hc hk1 (fun k hk => Hm.out k hk)
            have hg4 := (hc.block g HM2.out.lt (fun e => HM2.out.s2 (.inl e))).trans HM2.out.cell
            obtain ⟨_, _, _, k5⟩ := cells2 hg4
            obtain ⟨u5, d5⟩ : ∃ u, w3.cell? ⟨g, 1, none⟩ = some u := ⟨_, (cells2 hg4).2.1⟩
            have el : (I ++ [⟨e, A1, c1, xs⟩] : List IM).length = I.length + 1 := by simp
            rw [el] at h1 h3
            have H1 := Lib.hid h1
            have H2 := Lib.hid (show ∀ i, PastF g A T B1 (I ++ [⟨e, A1, c1, xs⟩]) i → PastF g A T B I i ∨ w.heap.size ≤ i from fun i hi => by
              rcases h2 i hi with h2 | h2 | h2
              · exact .inl h2
              · right; exact Nat.le_trans (Nat.le_trans HB1.out.size HB.out.size) (Nat.le_trans Hb2.out.size h2)
              · right; have := HS.out.2 i h2; have := Hgx.out; omega)
            have H3 := Lib.hid (show Chg (PastF g A T B I) w (w3.setCell ⟨g, 1, none⟩ (.slice B1 (I.length + 1) d1)) from
              (((Chg.of_below (F := PastF g A T B I) HB1.out).trans (Chg.of_belowB HB.out) (fun i hi e => by have := Hgx.out; omega)).trans (Chg.of_below (F := fun _ => False) Hb2.out) (fun _ _ f => f.elim)).trans h3 (fun _ _ h => h))
            clear h1 h2 h3 hg4 hi hc hk1 el c2
            go_wp2_with fail
            refine mixQ3_last (by simp) rfl ?_
            repeat (first
              | (refine mix3_free (v := ?_) rfl rfl ?_ (mix3_norm (a' := ?_) ?_ ?_)
                 rotate_left
                 focus (intro w'; go_simp; first | done | (with_reducible rfl))
                 rotate_left
                 focus (simp only [Act.put, List.getElem_toArray, List.getElem_cons_zero, List.getElem_cons_succ, List.setIfInBounds_toArray, List.set_cons_zero, List.set_cons_succ]; rfl))
              | (refine mix3_pure (v := ?_) rfl rfl ?_ (mix3_norm (a' := ?_) ?_ ?_)
                 rotate_left
                 focus (intro w' hR; go_simp; first | done | (with_reducible rfl))
                 rotate_left
                 focus (simp only [Act.put, List.getElem_toArray, List.getElem_cons_zero, List.getElem_cons_succ, List.setIfInBounds_toArray, List.set_cons_zero, List.set_cons_succ]; rfl))
              | (refine mix3_freeOff rfl rfl (mix3_norm (a' := ?_) ?_ ?_)
                 rotate_left
                 focus (simp only [Act.put, List.getElem_toArray, List.getElem_cons_zero, List.getElem_cons_succ, List.setIfInBounds_toArray, List.set_cons_zero, List.set_cons_succ]; rfl))
              | (refine mix3_off rfl rfl (mix3_norm (a' := ?_) ?_ ?_)
                 rotate_left
                 focus (simp only [Act.put, List.getElem_toArray, List.getElem_cons_zero, List.getElem_cons_succ, List.setIfInBounds_toArray, List.set_cons_zero, List.set_cons_succ]; rfl)))
            refine mix3_eff rfl ?_
            simp only [List.getElem_toArray, List.getElem_cons_zero, List.getElem_cons_succ]
            go_wp2_with fail
            refine mixQ3_last (by simp) rfl ?_
            refine mix3_done ?_
            clear d5 k5
            go_wp2_with fail
            go_ret
            exact ⟨by rw [HE.out.1]; rfl, B1, d1, _, H1.out, by rw [HE.out.2, ← HXl.out]; simp [imgs], H2.out, H3.out⟩
end
end Go.Proofs.Ytiolfnnkkflaiaa
