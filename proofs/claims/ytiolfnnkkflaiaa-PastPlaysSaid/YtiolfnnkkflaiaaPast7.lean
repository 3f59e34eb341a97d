/- A past: a new one. -/
import Derived.Test.YtiolfnnkkflaiaaPast6
open Go.RowKit
namespace Go.Proofs.Ytiolfnnkkflaiaa

theorem wpList_append_tab {w : World} {ops : Array Oper} {rest : List Oper} {o : Oper} {a : Act} {Q : Exit → Act → World → Prop} (hgd : o.guard = none) (s x : Operand)
    (ho : o.op = .call { callee := .builtin .append, args := #[s, x], argTypes := #[85, 85] })
    (A : Option Addr) (c : Nat) (T : List TR) (hs : a.eval s = .slice A T.length c) (ht : Tab w A c T) (t : TR) (hl : t.lies w) (hn : ¬ TabF A T t.b)
    (g : Nat) (hx : a.eval x = .slice (some ⟨g, 0, none⟩) 1 1) (hy : w.cell? ⟨g, 0, none⟩ = some t.v) (hlen : T.length + 1 ≤ 100000)
    (h : ∀ A1 c1 w1, Tab w1 A1 c1 (T ++ [t]) → Chg (fun i => blk A = some i) w w1 → (∀ k, blk A1 = some k → blk A = some k ∨ k = w.heap.size) → wpList Try.prog ops Q rest (a.put o.dst (.slice A1 (T ++ [t]).length c1)) w1) : wpList Try.prog ops Q (o :: rest) a w := by
  have hr : Reads w 1 (some ⟨g, 0, none⟩) 1 (tvs [t]) := ⟨rfl, fun _ => ⟨_, rfl, fun j u hu => by
    cases j with
    | zero => have h1 : u = t.v := by simpa [tvs] using hu.symm
              subst h1; exact hy
    | succ j => simp [tvs] at hu⟩⟩
  obtain ⟨i0, hi, hz0, hz1, hz2⟩ := info_parts info_sl
  refine wpList_append_any w hgd s x 85 ho 0 22 i0 _ 1 24 Try.underlying85 hi hz0 hz1 hz2 rfl (by omega) _ _ _ hs ht.row (some ⟨g, 0, none⟩) _ 1 _ hx hr (oneCell_tvs _) (by unfold maxLen; omega) (by omega) (Nat.zero_le _) ?_
  intro v' w' h1 h2 h3
  obtain ⟨A1, c1, rfl, _⟩ := own_slice h1
  rw [ownBlock_slice] at h2
  have hll : T.length + 1 = (T ++ [t]).length := by simp
  rw [← tvs_append, hll] at h1
  rw [hll]
  have hchg : Chg (fun i => blk A = some i) w w' := ⟨h2.os, h2.tape, h2.output, h2.size, fun i hi hF => h2.block i hi (fun e => hF e.symm)⟩
  have hblk : ∀ k, blk A1 = some k → blk A = some k ∨ k = w.heap.size := fun k hk => by
    rw [ownBlock_slice, ownBlock_slice] at h3
    rcases h3 with h3 | h3
    · exact .inl (h3 ▸ hk)
    · rw [hk] at h3; exact .inr (Option.some.inj h3)
  have get : ∀ k (hk : k < (T ++ [t]).length), (∃ h2 : k < T.length, (T ++ [t])[k] = T[k]) ∨ (k = T.length ∧ (T ++ [t])[k] = t) := fun k hk => by
    by_cases hkT : k < T.length
    · exact .inl ⟨hkT, List.getElem_append_left hkT⟩
    · have : k = T.length := by rw [← hll] at hk; omega
      subst this
      exact .inr ⟨rfl, by simp⟩
  have old : ∀ k (hk : k < T.length), T[k].lies w' := fun k hk => (ht.lies k hk).chg hchg (ht.sep k hk)
  have new : t.lies w' := hl.chg hchg (fun e => hn (.inl e))
  refine h A1 c1 w' ⟨h1, fun k hk => ?_, fun i j hi hj e => ?_, fun k hk => ?_⟩ hchg hblk
  · rcases get k hk with ⟨h4, e4⟩ | ⟨_, e4⟩
    · rw [e4]; exact old k h4
    · rw [e4]; exact new
  · rcases get i hi with ⟨h4, e4⟩ | ⟨h4, e4⟩ <;> rcases get j hj with ⟨h5, e5⟩ | ⟨h5, e5⟩
    · rw [e4, e5] at e; exact ht.dis i j h4 h5 e
    · rw [e4, e5] at e; exact absurd (.inr ⟨i, h4, e⟩) hn
    · rw [e4, e5] at e; exact absurd (.inr ⟨j, h5, e.symm⟩) hn
    · omega
  · intro e
    rcases hblk _ e with h6 | h6
    · rcases get k hk with ⟨h4, e4⟩ | ⟨_, e4⟩
      · rw [e4] at h6; exact ht.sep k h4 h6
      · rw [e4] at h6; exact hn (.inl h6)
    · rcases get k hk with ⟨h4, e4⟩ | ⟨_, e4⟩
      · rw [e4] at h6; have := (ht.lies k h4).lt; omega
      · rw [e4] at h6; have := hl.lt; omega

section
variable {w w1 w2 : World} {g : Nat} {A A1 : Option Addr} {c c1 : Nat} {T : List TR} {t : TR} {B : Option Addr} {d : Nat} {I : List IM}
/-- A past has one row more: the table grew from w1 to w2, the head is written. -/
theorem PastM.push (h : PastM w g A c T B d I) (hb : Below w.heap.size w w1) (hn : w.heap.size ≤ t.b) (ht : Tab w2 A1 c1 (T ++ [t])) (hc : Chg (fun i => blk A = some i) w1 w2) (hk : ∀ k, blk A1 = some k → blk A = some k ∨ k = w1.heap.size) :
    PastM (w2.setCell ⟨g, 0, none⟩ (.slice A1 (T ++ [t]).length c1)) g A1 c1 (T ++ [t]) B d I ∧ (∀ i, PastF g A1 (T ++ [t]) B I i → PastF g A T B I i ∨ w.heap.size ≤ i) ∧ Chg (PastF g A T B I) w (w2.setCell ⟨g, 0, none⟩ (.slice A1 (T ++ [t]).length c1)) := by
  have hgA : blk A ≠ some g := fun e => h.s1 (.inl e)
  have hg : w2.heap[g]? = some (.cells #[.slice A T.length c, .slice B I.length d] 103 (0, 0)) := (hc.block g (Nat.lt_of_lt_of_le h.lt hb.size) hgA).trans ((hb.block g h.lt).trans h.cell)
  have hset : Chg (fun i => i = g) w2 (w2.setCell ⟨g, 0, none⟩ (.slice A1 (T ++ [t]).length c1)) := (Chg.refl _ _).set g 0 _ (fun _ => rfl)
  have hF : ∀ i, TabF A1 (T ++ [t]) i → TabF A T i ∨ w.heap.size ≤ i := by
    rintro i (hi | ⟨j, hj, hi⟩)
    · rcases hk i hi with h1 | h1
      · exact .inl (.inl h1)
      · right; have := hb.size; omega
    · by_cases hjT : j < T.length
      · rw [List.getElem_append_left hjT] at hi
        exact .inl (.inr ⟨j, hjT, hi⟩)
      · have : j = T.length := by simp at hj; omega
        subst this
        simp at hi
        right; omega
  have hgF : ¬ TabF A1 (T ++ [t]) g := fun e => by
    rcases hF g e with h1 | h1
    · exact h.s1 h1
    · have := h.lt; omega
  have hI : ITab (w2.setCell ⟨g, 0, none⟩ (.slice A1 (T ++ [t]).length c1)) B d I := ((h.img.chg (F := fun _ => False) (.of_below hb) (fun _ _ f => f)).chg hc (fun i hi e => h.s3 i (.inl e) hi)).chg hset (fun i hi e => h.s2 (e ▸ hi))
  refine ⟨⟨?_, ht.chg hset (fun i hi e => hgF (e ▸ hi)), hI, hgF, h.s2, fun i hi hj => ?_⟩, ?_, ?_⟩
  · exact heap_setCell_same w2 g 0 _ _ _ hg
  · rcases hF i hi with h1 | h1
    · exact h.s3 i h1 hj
    · have := h.img.foot i hj; omega
  · rintro i (hi | hi | hi)
    · exact .inl (.inl hi)
    · exact (hF i hi).imp (fun h => .inr (.inl h)) id
    · exact .inl (.inr (.inr hi))
  · exact ((Chg.of_below (F := PastF g A T B I) hb).trans hc (fun i _ e => .inr (.inl (.inl e)))).trans hset (fun i _ e => .inl e)
end

def newM (l : List ByteArray) : List (List ByteArray) := l.map fun s => [s]
set_option maxHeartbeats 2000000 in
set_option maxRecDepth 100000 in
theorem pastNew_any (w : World) (A' : Option Addr) (c' : Nat) (l : List ByteArray) (hr : Reads w 1 A' l.length (sts l)) (hl : l.length ≤ 90000) :
    Calls Try.prog 34 #[.slice A' l.length c'] w fun e w' => ∃ g A c T, e = .returned (.pointer (some ⟨g, 0, none⟩)) ∧ PastM w' g A c T none 0 [] ∧ texts T = newM l ∧ (∀ i, PastF g A T none [] i → w.heap.size ≤ i) ∧ Below w.heap.size w w' := by
  have Hr := Lib.hid hr
  clear hr
  obtain ⟨hb0, hg0, hs0⟩ := alloc1 w #[.slice none 0 0, .slice none 0 0] 103
  have hM0 : PastM (w.alloc (.cells #[.slice none 0 0, .slice none 0 0] 103)) w.heap.size none 0 [] none 0 [] := ⟨hg0, Tab.nil _, ITab.nil _, fun h => by rcases h with h | ⟨k, hk, _⟩; exact (by cases h); simp at hk, fun h => by rcases h with h | ⟨k, hk, _⟩; exact (by cases h); simp at hk, fun i h => by rcases h with h | ⟨k, hk, _⟩; exact (by cases h); simp at hk⟩
  have HM0 := Lib.hid hM0
  have Hb0 := Lib.hid hb0
  clear hM0 hb0 hg0 hs0
  go_enter Try.func34, Try.ntmps34
  go_wp2_with fail
  generalize w.alloc (.cells #[.slice none 0 0, .slice none 0 0] 103) = w1 at HM0 Hb0 ⊢
  go_loopw [10] (fun i wr => ∃ (k : Nat) (A : Option Addr) (c : Nat) (T : List TR), k ≤ l.length ∧ i = .int .i64 k ∧ Hid (PastM wr w.heap.size A c T none 0 []) ∧ Hid (texts T = newM (l.take k) ∧ T.length = k) ∧ Hid (∀ i, PastF w.heap.size A T none [] i → w.heap.size ≤ i) ∧ Hid (Below w.heap.size w wr)) (fun i _ => l.length - (intOf i).toNat)
  case atStart => exact ⟨0, none, 0, [], Nat.zero_le _, rfl, HM0, Lib.hid ⟨rfl, rfl⟩, Lib.hid (fun i h => by
    rcases h with h | (h | ⟨k, hk, _⟩) | (h | ⟨k, hk, _⟩)
    · omega
    · cases h
    · simp at hk
    · cases h
    · simp at hk), Hb0⟩
  case round =>
    obtain ⟨k, A, c, T, hk, rfl, HM, HT, HF, Hb⟩ := hrel
    by_cases hlt : k < l.length
    · obtain ⟨ad, rfl, d0⟩ := str_cell (Hr.out.below Hb.out) hlt
      have Htk : Hid (newM (l.take (k + 1)) = newM (l.take k) ++ [[l[k]]]) := Lib.hid (by unfold newM; rw [List.take_succ_eq_append_getElem hlt, List.map_append]; rfl)
      obtain ⟨c0, c1, f0, f1⟩ := cells2 HM.out.cell
      obtain ⟨hb2, hg2, hg3, hs2⟩ := alloc2 wr #[.string l[k]] 9 #[.slice (some ⟨wr.heap.size, 0, none⟩) 1 1] 22
      have HT2 := Lib.hid (HM.out.tab.below hb2)
      have hlies : (⟨wr.heap.size, 0, 1, [l[k]]⟩ : TR).lies ((wr.alloc (.cells #[.string l[k]] 9)).alloc (.cells #[.slice (some ⟨wr.heap.size, 0, none⟩) 1 1] 22)) := (TR.lies.of_own (SRow.one wr l[k]) (by simp)).chg (F := fun _ => False) (.of_below (alloc1 _ _ _).1) id
      have hnot : ¬ TabF A T wr.heap.size := fun e => by have := HM.out.tab.foot _ e; omega
      have HL := Lib.hid hlies
      have HN := Lib.hid hnot
      have HC := Lib.hid (cells1 hg3).1
      have Hs2 := Lib.hid hs2
      have Hb2 := Lib.hid hb2
      have Hlen := Lib.hid (show T.length + 1 ≤ 100000 by have := HT.out.2; omega)
      clear hb2 hg2 hg3 hs2 hlies hnot
      generalize l[k] = s at d0 HT2 HL HC Hb2 Htk Hs2
      go_wp2_with (at_builtin; refine wpList_append_tab rfl (.tmp 18) (.tmp 21) rfl A c T rfl HT2.out ⟨wr.heap.size, 0, 1, [s]⟩ HL.out HN.out (wr.heap.size + 1) rfl HC.out Hlen.out ?_)
      intro A1 c1 w2 ht hc hk1
      obtain ⟨h1, h2, h3⟩ := HM.out.push Hb2.out (t := ⟨wr.heap.size, 0, 1, [s]⟩) (Nat.le_refl _) ht hc (fun k hk => (hk1 k hk).imp id (fun e => by rw [Hs2.out]; exact e))
      have hg4 := (hc.block w.heap.size (Nat.lt_of_lt_of_le HM.out.lt Hb2.out.size) (fun e => HM.out.s1 (.inl e))).trans ((Hb2.out.block _ HM.out.lt).trans HM.out.cell)
      obtain ⟨e0, e1, k0, k1⟩ := cells2 hg4
      have el : (T ++ [⟨wr.heap.size, 0, 1, [s]⟩] : List TR).length = T.length + 1 := by simp
      rw [el] at h1 h3
      have H1 := Lib.hid h1
      have HT3 := Lib.hid (show texts (T ++ [⟨wr.heap.size, 0, 1, [s]⟩]) = newM (l.take (k + 1)) ∧ (T ++ [⟨wr.heap.size, 0, 1, [s]⟩] : List TR).length = k + 1 from ⟨by rw [Htk.out, ← HT.out.1]; simp [texts], by rw [List.length_append, HT.out.2]; rfl⟩)
      have HF3 := Lib.hid (show ∀ i, PastF w.heap.size A1 (T ++ [⟨wr.heap.size, 0, 1, [s]⟩]) none [] i → w.heap.size ≤ i from fun i hi => by
        rcases h2 i hi with h2 | h2
        · exact HF.out i h2
        · exact Nat.le_trans Hb.out.size h2)
      have Hb3 := Lib.hid (show Below w.heap.size w (w2.setCell ⟨w.heap.size, 0, none⟩ (.slice A1 (T.length + 1) c1)) from Hb.out.trans (h3.below (fun i hi hf => by have := HF.out i hf; omega) Hb.out.size))
      clear el h1 h2 h3 hg4 ht hc hk1 c0 f0 f1 e1 k1
      go_wp2_with fail
      case roundEnd =>
        exact ⟨⟨k + 1, A1, c1, _, by omega, by push_cast; rfl, H1, HT3, HF3, Hb3⟩, by simp only [intOf]; omega⟩
    · obtain rfl : k = l.length := by omega
      go_wp2_with fail
      go_ret
      exact ⟨w.heap.size, A, c, T, rfl, HM.out, by rw [HT.out.1, List.take_length], HF.out, Hb.out⟩
end Go.Proofs.Ytiolfnnkkflaiaa
