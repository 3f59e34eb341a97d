/- A past: one was written. -/
import Derived.Test.YtiolfnnkkflaiaaPast3
open Go.RowKit
namespace Go.Proofs.Ytiolfnnkkflaiaa

/-- What is kept: all blocks but those of F. -/
def KeepQ (F : Nat → Prop) (w w' : World) : Prop := w.heap.size ≤ w'.heap.size ∧ ∀ k, k < w.heap.size → ¬ F k → w'.heap[k]? = w.heap[k]?
theorem KeepQ.refl (F : Nat → Prop) (w : World) : KeepQ F w w := ⟨Nat.le_refl _, fun _ _ _ => rfl⟩
theorem KeepQ.trans (F : Nat → Prop) (a b c : World) (h : KeepQ F a b) (k : KeepQ F b c) : KeepQ F a c :=
  ⟨Nat.le_trans h.1 k.1, fun i hi hF => (k.2 i (Nat.lt_of_lt_of_le hi h.1) hF).trans (h.2 i hi hF)⟩
theorem KeepQ.of_chg {F G : Nat → Prop} {w w' : World} (h : Chg G w w') (hG : ∀ i, i < w.heap.size → G i → F i) : KeepQ F w w' := ⟨h.size, fun i hi hF => h.block i hi (fun g => hF (hG i hi g))⟩
theorem KeepQ.cell {F : Nat → Prop} {w w' : World} (h : KeepQ F w w') {p : Addr} {v : Value} (hp : w.cell? p = some v) (hm : ¬ F p.block) : w'.cell? p = some v := by
  have h1 := h.2 p.block (World.block_lt_of_cell? _ _ hp) hm
  rw [← hp]
  unfold World.cell?
  rw [h1]

def writeE (m : List (List ByteArray)) (i : Int) (s : ByteArray) : Nat := if inP m.length i then (if rightS s = true then 0 else 4) else 3
def writeM (m : List (List ByteArray)) (i : Int) (s : ByteArray) : List (List ByteArray) := if inP m.length i ∧ rightS s = true then m.set i.toNat (m.getD i.toNat [] ++ [s]) else m
theorem texts_set (T : List TR) (k : Nat) (t : TR) : texts (T.set k t) = (texts T).set k t.xs := by simp [texts, List.map_set]

section
variable {w w1 : World} {g : Nat} {b c : Nat} {T : List TR} {B : Option Addr} {d : Nat} {I : List IM}
/-- A row of a past is another one. -/
theorem PastM.set (h : PastM w g (some ⟨b, 0, none⟩) c T B d I) {k : Nat} (hk : k < T.length) {t1 : TR} (hc : Chg (fun i => i = T[k].b) w w1) (ht : t1.lies w1) (hb : t1.b = T[k].b ∨ w.heap.size ≤ t1.b) :
    PastM (w1.setCell ⟨b, k, none⟩ t1.v) g (some ⟨b, 0, none⟩) c (T.set k t1) B d I ∧ (∀ i, PastF g (some ⟨b, 0, none⟩) (T.set k t1) B I i → PastF g (some ⟨b, 0, none⟩) T B I i ∨ w.heap.size ≤ i) ∧ Chg (PastF g (some ⟨b, 0, none⟩) T B I) w (w1.setCell ⟨b, k, none⟩ t1.v) := by
  have hgb : g ≠ b := fun e => h.s1 (.inl (by rw [e]; rfl))
  have hgt : g ≠ T[k].b := fun e => h.s1 (.inr ⟨k, hk, e.symm⟩)
  have hF : ∀ i, TabF (some ⟨b, 0, none⟩) (T.set k t1) i → TabF (some ⟨b, 0, none⟩) T i ∨ w.heap.size ≤ i := by
    rintro i (hi | ⟨j, hj, hi⟩)
    · exact .inl (.inl hi)
    · rw [List.length_set] at hj
      rw [List.getElem_set] at hi
      split at hi
      · rcases hb with hb | hb
        · exact .inl (.inr ⟨k, hk, hb ▸ hi⟩)
        · right; omega
      · exact .inl (.inr ⟨j, hj, hi⟩)
  have hset : Chg (fun i => i = b) w1 (w1.setCell ⟨b, k, none⟩ t1.v) := (Chg.refl _ _).set b k _ (fun _ => rfl)
  have hI : ITab (w1.setCell ⟨b, k, none⟩ t1.v) B d I := (h.img.chg hc (fun i hi e => h.s3 T[k].b (.inr ⟨k, hk, rfl⟩) (e ▸ hi))).chg hset (fun i hi e => h.s3 b (.inl rfl) (e ▸ hi))
  refine ⟨⟨?_, h.tab.set hk hc ht hb, hI, fun hh => ?_, h.s2, fun i hi hj => ?_⟩, ?_, ?_⟩
  · rw [List.length_set]
    exact (hset.block g (Nat.lt_of_lt_of_le h.lt hc.size) hgb).trans ((hc.block g h.lt hgt).trans h.cell)
  · rcases hF g hh with h1 | h1
    · exact h.s1 h1
    · have := h.lt; omega
  · rcases hF i hi with h1 | h1
    · exact h.s3 i h1 hj
    · have := h.img.foot i hj; omega
  · rintro i (hi | hi | hi)
    · exact .inl (.inl hi)
    · exact (hF i hi).imp (fun h => .inr (.inl h)) id
    · exact .inl (.inr (.inr hi))
  · exact (hc.mono (fun i _ e => .inr (.inl (.inr ⟨k, hk, e.symm⟩)))).trans hset (fun i _ e => .inr (.inl (.inl (by rw [e]; rfl))))

set_option maxHeartbeats 2000000 in
set_option maxRecDepth 100000 in
theorem pastWrite_any {A : Option Addr} (h : PastM w g A c T B d I) (hlen : ∀ k (hk : k < T.length), T[k].xs.length + 1 ≤ 100000) (i : Int) (s : ByteArray) :
    Calls Try.prog 35 #[.pointer (some ⟨g, 0, none⟩), .int .i64 i, .string s] w fun e w' => e = .returned (.int .i64 (writeE (texts T) i s : Nat)) ∧
      ∃ T', PastM w' g A c T' B d I ∧ texts T' = writeM (texts T) i s ∧ (∀ i, PastF g A T' B I i → PastF g A T B I i ∨ w.heap.size ≤ i) ∧ Chg (PastF g A T B I) w w' := by
  have HH := Lib.hid (pastHas_any h i)
  by_cases hin : inP T.length i
  · rw [hasP_in hin] at HH
    have HS := Lib.hid (secRight_any s w)
    cases hs : rightS s with
    | false =>
      rw [hs] at HS
      have HE := Lib.hid (show writeE (texts T) i s = 4 ∧ writeM (texts T) i s = texts T from ⟨by unfold writeE; rw [texts_length, if_pos hin, if_neg (by rw [hs]; simp)], by unfold writeM; rw [if_neg (by rw [hs]; simp)]⟩)
      have Hp := Lib.hid h
      clear h hin hs
      go_enter Try.func35, Try.ntmps35
      go_wp2_with fail
      refine HH.out.mono ?_
      rintro e w1 ⟨rfl, rfl⟩
      rw [show ((0 : Nat) : Int) = 0 from rfl]
      go_wp2_with fail
      refine HS.out.mono ?_
      rintro e w1 ⟨rfl, rfl⟩
      go_wp2_with fail
      go_ret
      exact ⟨by rw [HE.out.1]; rfl, T, Hp.out, HE.out.2.symm, fun i hi => .inl hi, Chg.refl _ _⟩
    | true =>
      rw [hs] at HS
      obtain ⟨k, hk, rfl⟩ := inP_nat hin
      have HE := Lib.hid (show writeE (texts T) k s = 0 ∧ writeM (texts T) k s = (texts T).set k (T[k].xs ++ [s]) from ⟨by unfold writeE; rw [texts_length, if_pos hin, if_pos hs], by unfold writeM; rw [texts_length, if_pos ⟨hin, hs⟩, Int.toNat_natCast, texts_get T k hk]⟩)
      obtain ⟨b, rfl, hb, d0, _⟩ := h.tab.cell hk
      obtain ⟨c0, c1, _, _⟩ := cells2 h.cell
      have hkI : (k : Int) < (T.length : Int) := by omega
      have hl := Lib.hid (hlen k hk)
      have Hp := Lib.hid h
      have HT := Lib.hid (h.tab.lies k hk)
      have Hsep := Lib.hid (show b ≠ T[k].b ∧ g ≠ T[k].b from ⟨fun e => h.tab.sep k hk (by rw [← e]; rfl), fun e => h.s1 (.inr ⟨k, hk, e.symm⟩)⟩)
      have d0 : w.cell? ⟨b, k, none⟩ = some (.slice (some ⟨T[k].b, T[k].o, none⟩) T[k].xs.length T[k].c) := d0
      clear h hin hs
      go_enter Try.func35, Try.ntmps35
      go_wp2_with fail
      refine HH.out.mono ?_
      rintro e w1 ⟨rfl, rfl⟩
      rw [show ((0 : Nat) : Int) = 0 from rfl]
      go_wp2_with fail
      refine HS.out.mono ?_
      rintro e w1 ⟨rfl, rfl⟩
      go_wp2_with fail
      have q0 := fun w' (hk : KeepQ (fun i => i = T[k].b) w.drew w') => hk.cell (p := ⟨g, 0, none⟩) c0 Hsep.out.2
      have q1 := fun w' (hk : KeepQ (fun i => i = T[k].b) w.drew w') => hk.cell (p := ⟨b, k, none⟩) d0 Hsep.out.1
      refine wp_region_mix3 (KeepQ (fun i => i = T[k].b)) (KeepQ.refl (fun i => i = T[k].b)) (KeepQ.trans (fun i => i = T[k].b)) [16] [(0, 0), (0, 1), (0, 2), (0, 4), (0, 5), (0, 6), (0, 7), (0, 9), (0, 12), (1, 3), (1, 8), (0, 10), (1, 11), (2, 13), (2, 14), (0, 15), (2, 16)] (by kernel_rfl) (by kernel_rfl) (fun d _ _ _ _ h => by cases d <;> exact h) ?_
      repeat (first
        | (refine mix3_free (v := ?_) rfl rfl ?_ (mix3_norm (a' := ?_) ?_ ?_)
           rotate_left
           focus (intro w'; go_simp; first | done | (with_reducible rfl))
           rotate_left
           focus (simp only [Act.put, List.getElem_toArray, List.getElem_cons_zero, List.getElem_cons_succ, List.setIfInBounds_toArray, List.set_cons_zero, List.set_cons_succ]; rfl))
        | (refine mix3_pure (v := ?_) rfl rfl ?_ (mix3_norm (a' := ?_) ?_ ?_)
           rotate_left
           focus (intro w' hR; go_simp; first | done | (with_reducible rfl))
           rotate_left
           focus (simp only [Act.put, List.getElem_toArray, List.getElem_cons_zero, List.getElem_cons_succ, List.setIfInBounds_toArray, List.set_cons_zero, List.set_cons_succ]; rfl))
        | (refine mix3_freeOff rfl rfl (mix3_norm (a' := ?_) ?_ ?_)
           rotate_left
           focus (simp only [Act.put, List.getElem_toArray, List.getElem_cons_zero, List.getElem_cons_succ, List.setIfInBounds_toArray, List.set_cons_zero, List.set_cons_succ]; rfl))
        | (refine mix3_off rfl rfl (mix3_norm (a' := ?_) ?_ ?_)
           rotate_left
           focus (simp only [Act.put, List.getElem_toArray, List.getElem_cons_zero, List.getElem_cons_succ, List.setIfInBounds_toArray, List.set_cons_zero, List.set_cons_succ]; rfl)))
      clear q0 q1 c0 c1 d0
      refine mix3_eff rfl ?_
      simp only [List.getElem_toArray, List.getElem_cons_zero, List.getElem_cons_succ]
      go_wp2_with fail
      refine mixQ3_normal ⟨by show w.heap.size ≤ (w.heap.push _).size; rw [Array.size_push]; omega, fun i hi _ => heap_alloc_old w _ hi⟩ rfl ?_
      refine mix3_eff rfl ?_
      simp only [List.getElem_toArray, List.getElem_cons_zero, List.getElem_cons_succ]
      have hb3 : Below w.heap.size w (w.alloc (.cells #[.string s] 9)).drew := ((Below.refl w.heap.size w).alloc (Nat.le_refl _) _).drew
      have HT3 := Lib.hid (HT.out.chg (F := fun _ => False) (.of_below hb3) (fun f => f))
      have hg3 : (w.alloc (.cells #[.string s] 9)).drew.cell? ⟨w.heap.size, 0, none⟩ = some (.string s) := (cells1 (heap_alloc_new w _)).1
      refine wpList_append_tr rfl (.tmp 30) (.tmp 32) rfl T[k] rfl HT3.out s w.heap.size rfl hg3 hl.out ?_
      intro t1 w4 hxs ht1 hc4 hb4
      have hC : Chg (fun i => i = T[k].b) w w4 := (Chg.of_below (F := fun i => i = T[k].b) hb3).trans hc4 (fun _ _ h => h)
      have hM := Hp.out.set hk hC ht1 (hb4.imp id (fun e => by rw [e]; exact hb3.size))
      have Hk4 := Lib.hid (KeepQ.of_chg hc4 (fun _ _ h => h))
      obtain ⟨_, e4, _, d4, f4⟩ := (Hp.out.tab.set hk hC ht1 (hb4.imp id (fun e => by rw [e]; exact hb3.size))).cell (k := k) (by rw [List.length_set]; exact hk)
      have hrow4 := ownsRow_chg Hp.out.tab.row hC (fun i hi e => Hsep.out.1 (by have := Option.some.inj hi; simp only at this; rw [this, e]))
      have f5 := World.ownsRow.frozenAt hrow4 k
      obtain ⟨u5, d5⟩ : ∃ u, w4.cell? ⟨b, k, none⟩ = some u := ⟨_, by rw [World.ownsRow.cellAt hrow4 k (by omega)]; exact tvs_get T k hk⟩
      have HM := Lib.hid hM
      have Hxs := Lib.hid (show texts (T.set k t1) = (texts T).set k (T[k].xs ++ [s]) by rw [texts_set, hxs])
      clear hM hC hc4 hb4 ht1 hb3 hg3 d4 f4 e4 hrow4 hxs
      unfold TR.v at HM ⊢
      go_wp2_with fail
      refine mixQ3_normal Hk4.out rfl ?_
      repeat (first
        | (refine mix3_free (v := ?_) rfl rfl ?_ (mix3_norm (a' := ?_) ?_ ?_)
           rotate_left
           focus (intro w'; go_simp; first | done | (with_reducible rfl))
           rotate_left
           focus (simp only [Act.put, List.getElem_toArray, List.getElem_cons_zero, List.getElem_cons_succ, List.setIfInBounds_toArray, List.set_cons_zero, List.set_cons_succ]; rfl))
        | (refine mix3_pure (v := ?_) rfl rfl ?_ (mix3_norm (a' := ?_) ?_ ?_)
           rotate_left
           focus (intro w' hR; go_simp; first | done | (with_reducible rfl))
           rotate_left
           focus (simp only [Act.put, List.getElem_toArray, List.getElem_cons_zero, List.getElem_cons_succ, List.setIfInBounds_toArray, List.set_cons_zero, List.set_cons_succ]; rfl))
        | (refine mix3_freeOff rfl rfl (mix3_norm (a' := ?_) ?_ ?_)
           rotate_left
           focus (simp only [Act.put, List.getElem_toArray, List.getElem_cons_zero, List.getElem_cons_succ, List.setIfInBounds_toArray, List.set_cons_zero, List.set_cons_succ]; rfl))
        | (refine mix3_off rfl rfl (mix3_norm (a' := ?_) ?_ ?_)
           rotate_left
           focus (simp only [Act.put, List.getElem_toArray, List.getElem_cons_zero, List.getElem_cons_succ, List.setIfInBounds_toArray, List.set_cons_zero, List.set_cons_succ]; rfl)))
      refine mix3_eff rfl ?_
      simp only [List.getElem_toArray, List.getElem_cons_zero, List.getElem_cons_succ]
      go_wp2_with fail
      refine mixQ3_last (by simp) rfl ?_
      refine mix3_done ?_
      go_wp2_with fail
      go_ret
      exact ⟨by rw [HE.out.1]; rfl, T.set k t1, HM.out.1, by rw [HE.out.2]; exact Hxs.out, HM.out.2.1, HM.out.2.2⟩
  · rw [hasP_out hin] at HH
    have HE := Lib.hid (show writeE (texts T) i s = 3 ∧ writeM (texts T) i s = texts T from ⟨by unfold writeE; rw [texts_length, if_neg hin], by unfold writeM; rw [texts_length, if_neg (fun h => hin h.1)]⟩)
    have Hp := Lib.hid h
    clear h hin
    go_enter Try.func35, Try.ntmps35
    go_wp2_with fail
    refine HH.out.mono ?_
    rintro e w1 ⟨rfl, rfl⟩
    rw [show ((3 : Nat) : Int) = 3 from rfl]
    go_wp2_with fail
    go_ret
    exact ⟨by rw [HE.out.1]; rfl, T, Hp.out, HE.out.2.symm, fun i hi => .inl hi, Chg.refl _ _⟩
end
end Go.Proofs.Ytiolfnnkkflaiaa
