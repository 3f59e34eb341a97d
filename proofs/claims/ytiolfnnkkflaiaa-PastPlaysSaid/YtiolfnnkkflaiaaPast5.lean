/- A past: all were written; what sectors are found as. -/
import Derived.Test.YtiolfnnkkflaiaaPast4
open Go.RowKit
namespace Go.Proofs.Ytiolfnnkkflaiaa

/-- What was flushed: the last text alone, in a row that is full. -/
def flushT (t : TR) : TR := ⟨t.b, t.o + (t.xs.length - 1), 1, [lastS t.xs]⟩
theorem flushT_lies {w : World} {t : TR} (h : t.lies w) : (flushT t).lies w := by
  obtain ⟨j, hj, hjl, e⟩ := h.last
  refine ⟨h.lt, by simp [flushT], by simp [flushT], fun i hi => ?_, .inr rfl⟩
  have hi : i < 1 := hi
  obtain rfl : i = 0 := by omega
  show w.cell? ⟨t.b, t.o + (t.xs.length - 1) + 0, none⟩ = some (.string (lastS t.xs))
  rw [lastS_at hj, Nat.add_zero, show t.xs.length - 1 = j by omega]
  exact e
def flushM (m : List (List ByteArray)) : List (List ByteArray) := m.map fun l => [lastS l]
def flushK (m : List (List ByteArray)) (k : Nat) : List (List ByteArray) := flushM (m.take k) ++ m.drop k
theorem flushK_zero (m : List (List ByteArray)) : flushK m 0 = m := by simp [flushK, flushM]
theorem flushK_all (m : List (List ByteArray)) : flushK m m.length = flushM m := by simp [flushK]
theorem flushK_get (m : List (List ByteArray)) (k : Nat) (hk : k < m.length) : (flushK m k)[k]? = m[k]? := by
  unfold flushK flushM
  rw [List.getElem?_append_right (by simp; omega)]
  simp [List.length_take, Nat.min_eq_left (Nat.le_of_lt hk)]
theorem flushK_succ (m : List (List ByteArray)) (k : Nat) (hk : k < m.length) : (flushK m k).set k [lastS m[k]] = flushK m (k + 1) := by
  unfold flushK flushM
  have hl : ((m.take k).map fun l => [lastS l]).length = k := by simp; omega
  rw [List.set_append_right _ _ (by omega), hl, Nat.sub_self, List.drop_eq_getElem_cons hk, List.set_cons_zero, List.take_succ_eq_append_getElem hk, List.map_append, List.append_assoc]
  rfl

/-- What a past's rows turned into. -/
structure PastD (w0 : World) (g : Nat) (A : Option Addr) (c : Nat) (T : List TR) (B : Option Addr) (d : Nat) (I : List IM) (w1 : World) (T1 : List TR) : Prop where
  m : PastM w1 g A c T1 B d I
  len : T1.length = T.length
  foot : ∀ i, PastF g A T1 B I i → PastF g A T B I i ∨ w0.heap.size ≤ i
  chg : Chg (PastF g A T B I) w0 w1
section
variable {w w1 w2 : World} {g : Nat} {A : Option Addr} {b c : Nat} {T T1 : List TR} {B : Option Addr} {d : Nat} {I : List IM}
theorem PastD.refl (h : PastM w g A c T B d I) : PastD w g A c T B d I w T := ⟨h, rfl, fun _ h => .inl h, Chg.refl _ _⟩
theorem PastD.below (h : PastD w g A c T B d I w1 T1) (hb : Below w1.heap.size w1 w2) : PastD w g A c T B d I w2 T1 :=
  ⟨h.m.chg (G := fun _ => False) (.of_below hb) (fun _ _ f => f), h.len, h.foot, h.chg.trans (G := fun _ => False) (.of_below hb) (fun _ _ f => f.elim)⟩
theorem PastD.set (h : PastD w g (some ⟨b, 0, none⟩) c T B d I w1 T1) {k : Nat} (hk : k < T1.length) {t1 : TR} (hc : Chg (fun i => i = T1[k].b) w1 w2) (ht : t1.lies w2) (hb : t1.b = T1[k].b ∨ w1.heap.size ≤ t1.b) :
    PastD w g (some ⟨b, 0, none⟩) c T B d I (w2.setCell ⟨b, k, none⟩ t1.v) (T1.set k t1) := by
  obtain ⟨h1, h2, h3⟩ := h.m.set hk hc ht hb
  refine ⟨h1, by rw [List.length_set]; exact h.len, fun i hi => ?_, h.chg.trans h3 (fun i hi hf => ?_)⟩
  · rcases h2 i hi with h2 | h2
    · exact h.foot i h2
    · right; exact Nat.le_trans h.chg.size h2
  · rcases h.foot i hf with h4 | h4
    · exact h4
    · omega

set_option maxHeartbeats 2000000 in
set_option maxRecDepth 100000 in
theorem pastFlush_any (h : PastM w g A c T B d I) (hlen : ∀ k (hk : k < T.length), T[k].xs.length ≤ 100000) (hT : T.length ≤ 100000) :
    Calls Try.prog 38 #[.pointer (some ⟨g, 0, none⟩)] w fun e w' => e = .returned (.tuple #[]) ∧ ∃ T', PastD w g A c T B d I w' T' ∧ texts T' = flushM (texts T) := by
  obtain ⟨c0, c1, _, _⟩ := cells2 h.cell
  have Hp := Lib.hid h
  have Hlen := Lib.hid hlen
  have HT := Lib.hid hT
  clear h hlen hT
  go_enter Try.func38, Try.ntmps38
  go_wp2_with fail
  go_loopw [12] (fun i wr => ∃ (k : Nat) (T1 : List TR), k ≤ T.length ∧ i = .int .i64 k ∧ Hid (PastD w g A c T B d I wr T1) ∧ Hid (texts T1 = flushK (texts T) k)) (fun i _ => T.length - (intOf i).toNat)
  case atStart => exact ⟨0, T, Nat.zero_le _, rfl, Lib.hid (PastD.refl Hp.out), Lib.hid (flushK_zero _).symm⟩
  case round =>
    obtain ⟨k, T1, hk, rfl, HD, HX⟩ := hrel
    by_cases hlt : k < T.length
    · have hlt1 : k < T1.length := by rw [HD.out.len]; exact hlt
      obtain ⟨b, rfl, hb, d9, f0⟩ := HD.out.m.tab.cell hlt1
      have hx1 : (texts T)[k]? = some T1[k].xs := by
        rw [← flushK_get (texts T) k (by rw [texts_length]; exact hlt), ← HX.out]
        simp [texts, hlt1]
      have hl1 : T1[k].xs.length ≤ 100000 := by
        have h1 : T[k].xs = T1[k].xs := by simpa [texts, hlt] using hx1
        rw [← h1]; exact Hlen.out k hlt
      obtain ⟨j, hj, hjl, e0⟩ := (HD.out.m.tab.lies k hlt1).last
      have hcap := (HD.out.m.tab.lies k hlt1).cap
      obtain ⟨c0', c1', _, _⟩ := cells2 HD.out.m.cell
      have hkI : (k : Int) < (T1.length : Int) := by omega
      have hTl := HD.out.len
      have hT5 : T.length ≤ 100000 := HT.out
      have ew : IntKind.i64.wrap ((T1[k].xs.length : Int) - 1) = (j : Int) := by rw [IntWalk.i64_in ((T1[k].xs.length : Int) - 1) ⟨by omega, by omega⟩]; omega
      have hfl : (flushT T1[k]).v = .slice (some ⟨T1[k].b, T1[k].o + j, none⟩) 1 1 := by
        unfold flushT TR.v
        rw [show T1[k].xs.length - 1 = j by omega]; rfl
      have hset := HD.out.set hlt1 ((Chg.refl _ wr).drew) ((flushT_lies (HD.out.m.tab.lies k hlt1)).chg ((Chg.refl (fun _ => False) wr).drew) id) (.inl rfl)
      rw [hfl] at hset
      have Hset := Lib.hid hset
      have HX2 : Hid (texts (T1.set k (flushT T1[k])) = flushK (texts T) (k + 1)) := Lib.hid (by
        have hk2 : k < (texts T).length := by rw [texts_length]; exact hlt
        have hx2 : (texts T)[k] = T1[k].xs := by
          rw [List.getElem?_eq_getElem hk2] at hx1
          exact Option.some.inj hx1
        rw [texts_set, HX.out, ← flushK_succ _ _ hk2, hx2]
        rfl)
      have Hj := Lib.hid hj
      have d0 : wr.cell? ⟨b, k, none⟩ = some (.slice (some ⟨T1[k].b, T1[k].o, none⟩) T1[k].xs.length T1[k].c) := d9
      have hj1 : j ≤ T1[k].xs.length := by omega
      have hj2 : ¬ T1[k].xs.length = j := by omega
      have hj3 : T1[k].xs.length - j = 1 := by omega
      clear d9 hj hset hfl hx1
      go_wp2_with fail
      have q0 := fun w' (hk : KeepsBut [] wr.drew w') => hk.cell (p := ⟨g, 0, none⟩) c0' (by simp)
      refine wp_region_mix3 (KeepsBut []) (KeepsBut.refl []) (KeepsBut.trans []) [12] [(0, 0), (0, 1), (0, 2), (0, 4), (0, 5), (0, 6), (0, 7), (0, 8), (0, 9), (0, 10), (1, 3), (0, 11), (2, 12)] (by kernel_rfl) (by kernel_rfl) (fun d _ _ _ _ h => by cases d <;> exact h) ?_
      repeat (first
        | (refine mix3_free (v := ?_) rfl rfl ?_ (mix3_norm (a' := ?_) ?_ ?_)
           rotate_left
           focus (intro w'; go_simp; first | done | (with_reducible rfl))
           rotate_left
           focus (simp only [Act.put, List.getElem_toArray, List.getElem_cons_zero, List.getElem_cons_succ, List.setIfInBounds_toArray, List.set_cons_zero, List.set_cons_succ]; rfl))
        | (refine mix3_pure (v := ?_) rfl rfl ?_ (mix3_norm (a' := ?_) ?_ ?_)
           rotate_left
           focus (intro w' hR; go_simp; first | done | (with_reducible rfl))
           rotate_left
           focus (simp only [Act.put, List.getElem_toArray, List.getElem_cons_zero, List.getElem_cons_succ, List.setIfInBounds_toArray, List.set_cons_zero, List.set_cons_succ]; rfl))
        | (refine mix3_freeOff rfl rfl (mix3_norm (a' := ?_) ?_ ?_)
           rotate_left
           focus (simp only [Act.put, List.getElem_toArray, List.getElem_cons_zero, List.getElem_cons_succ, List.setIfInBounds_toArray, List.set_cons_zero, List.set_cons_succ]; rfl))
        | (refine mix3_off rfl rfl (mix3_norm (a' := ?_) ?_ ?_)
           rotate_left
           focus (simp only [Act.put, List.getElem_toArray, List.getElem_cons_zero, List.getElem_cons_succ, List.setIfInBounds_toArray, List.set_cons_zero, List.set_cons_succ]; rfl)))
      clear q0
      refine mix3_eff rfl ?_
      simp only [List.getElem_toArray, List.getElem_cons_zero, List.getElem_cons_succ]
      go_wp2_with fail
      refine mixQ3_last (by simp) rfl ?_
      refine mix3_done ?_
      clear d0 e0 c0' c1' f0
      go_wp2_with fail
      case roundEnd =>
        exact ⟨⟨k + 1, _, by omega, by push_cast; rfl, Hset, HX2⟩, by simp only [intOf]; omega⟩
    · obtain rfl : k = T.length := by omega
      go_wp2_with fail
      go_end0
      exact ⟨rfl, T1, HD.out, by rw [HX.out, ← texts_length T, flushK_all]⟩
end
end Go.Proofs.Ytiolfnnkkflaiaa
