/- Rows of texts that may be full, not at their block's start; tables of such rows. -/
import Derived.Test.YtiolfnnkkflaiaaStr
import Derived.Laws.Append
open Go.RowKit
namespace Go.Proofs.Ytiolfnnkkflaiaa

/-- A row of texts: its block, where it begins, its capacity, the texts. -/
structure TR where
  b : Nat
  o : Nat
  c : Nat
  xs : List ByteArray
def TR.v (t : TR) : Value := .slice (some ⟨t.b, t.o, none⟩) t.xs.length t.c
/-- It lies in memory: of its own from its block's start, or full. -/
structure TR.lies (w : World) (t : TR) : Prop where
  lt : t.b < w.heap.size
  ne : 0 < t.xs.length
  cap : t.xs.length ≤ t.c
  rd : ∀ j (hj : j < t.xs.length), w.cell? ⟨t.b, t.o + j, none⟩ = some (.string t.xs[j])
  own : (t.o = 0 ∧ SRow w (some ⟨t.b, 0, none⟩) t.c t.xs) ∨ t.c = t.xs.length
section
variable {w w1 : World} {t : TR}
theorem TR.lies.chg {F : Nat → Prop} (h : t.lies w) (hc : Chg F w w1) (hF : ¬ F t.b) : t.lies w1 :=
  ⟨Nat.lt_of_lt_of_le h.lt hc.size, h.ne, h.cap, fun j hj => by
    have h1 := h.rd j hj
    have hb := hc.block t.b h.lt hF
    rw [← h1]
    unfold World.cell?
    simp only
    rw [hb], h.own.imp (fun ⟨h1, h2⟩ => ⟨h1, h2.chg hc (fun k hk e => hF (by have := Option.some.inj hk; simp only at this; exact this ▸ e))⟩) id⟩
theorem TR.lies.reads (h : t.lies w) : Reads w 1 (some ⟨t.b, t.o, none⟩) t.xs.length (sts t.xs) := by
  refine ⟨by rw [sts_length]; omega, fun _ => ⟨_, rfl, fun j u hu => ?_⟩⟩
  have hj : j < t.xs.length := by
    have := (List.getElem?_eq_some_iff.1 hu).1
    rwa [sts_length] at this
  rw [sts_get _ _ hj] at hu
  rw [← hu]
  have ha : (⟨t.b, t.o, none⟩ : Addr).add j = ⟨t.b, t.o + j, none⟩ := by
    unfold Addr.add; split
    · rename_i h; subst h; rfl
    · rfl
  rw [ha]
  exact h.rd j hj
theorem TR.lies.last (h : t.lies w) : ∃ j, t.xs.length = j + 1 ∧ ∃ hj : j < t.xs.length, w.cell? ⟨t.b, t.o + j, none⟩ = some (.string t.xs[j]) :=
  ⟨t.xs.length - 1, by have := h.ne; omega, by have := h.ne; omega, h.rd _ _⟩
theorem TR.lies.of_own {b c : Nat} {xs : List ByteArray} (h : SRow w (some ⟨b, 0, none⟩) c xs) (h0 : 0 < xs.length) : (⟨b, 0, c, xs⟩ : TR).lies w := by
  obtain ⟨g, e, hg⟩ := h.form h0
  have e := Option.some.inj e
  injection e with e
  subst e
  refine ⟨hg, h0, ?_, fun j hj => ?_, .inl ⟨rfl, h⟩⟩
  · rcases h.2 with ⟨h2, _⟩ | ⟨g', cap, cur, hv, _, _, hn, _⟩
    · cases h2
    · injection hv with _ _ hc
      subst hc; exact hn
  · show w.cell? ⟨b, 0 + j, none⟩ = _
    rw [Nat.zero_add, World.ownsRow.cellAt h j (by simpa using hj)]
    exact sts_get xs j hj
end

/-- One text more, at the end of such a row. -/
theorem wpList_append_tr {w : World} {ops : Array Oper} {rest : List Oper} {o : Oper} {a : Act} {Q : Exit → Act → World → Prop} (hgd : o.guard = none) (s x : Operand)
    (ho : o.op = .call { callee := .builtin .append, args := #[s, x], argTypes := #[22, 22] })
    (t : TR) (hs : a.eval s = t.v) (ht : t.lies w) (y : ByteArray) (g : Nat) (hx : a.eval x = .slice (some ⟨g, 0, none⟩) 1 1) (hy : w.cell? ⟨g, 0, none⟩ = some (.string y)) (hlen : t.xs.length + 1 ≤ 100000)
    (h : ∀ (t1 : TR) w1, t1.xs = t.xs ++ [y] → t1.lies w1 → Chg (fun i => i = t.b) w w1 → (t1.b = t.b ∨ t1.b = w.heap.size) → wpList Try.prog ops Q rest (a.put o.dst t1.v) w1) : wpList Try.prog ops Q (o :: rest) a w := by
  have hr : Reads w 1 (some ⟨g, 0, none⟩) 1 (sts [y]) := ⟨rfl, fun _ => ⟨_, rfl, fun j u hu => by
    cases j with
    | zero => have h1 : u = .string y := by simpa [sts] using hu.symm
              subst h1; exact hy
    | succ j => simp [sts] at hu⟩⟩
  rcases ht.own with ⟨h0, hown⟩ | hfull
  · refine wpList_append_st hgd s x ho (some ⟨t.b, 0, none⟩) t.c t.xs (by rw [hs]; unfold TR.v; rw [h0]) hown (some ⟨g, 0, none⟩) 1 [y] 1 rfl hx hr hlen ?_
    intro A1 c1 w1 hrow hchg hblk
    obtain ⟨b1, rfl, hb1⟩ := hrow.form (by simp)
    refine h ⟨b1, 0, c1, t.xs ++ [y]⟩ w1 rfl (TR.lies.of_own hrow (by simp)) (hchg.mono fun i _ e => (by have := Option.some.inj e; exact this.symm)) ?_
    rcases hblk b1 rfl with h1 | h1
    · exact .inl (by have := Option.some.inj h1; exact this.symm)
    · exact .inr h1
  · obtain ⟨i0, hi, hz0, hz1, hz2⟩ := info_parts info_st
    have hrun := run_append_grow (P := Try.prog) w 22 o.type 9 i0 _ Try.underlying22 hi hz0 ⟨t.b, t.o, none⟩ t.xs.length t.c (sts t.xs) (by rw [sts_length, hz1]; omega) (fun j v hv => by
      obtain ⟨ad, e, hc⟩ := ht.reads.2 ht.ne
      have e := Option.some.inj e
      subst e
      exact hc j v hv) ⟨g, 0, none⟩ 1 1 (sts [y]) (by rw [hz1]; rfl) (fun j v hv => by
      obtain ⟨ad, e, hc⟩ := hr.2 (by omega)
      have e := Option.some.inj e
      subst e
      exact hc j v hv) (by omega) (by omega) (by
      rw [hz2]
      exact growslice_fits (by omega) (by omega))
    have hge := grownCap_ge w (t.xs.length + 1) t.c 9
    have hcm : grownCap w (t.xs.length + 1) t.c 9 ≤ maxLen := grownCap_le_maxLen w (t.xs.length + 1) t.c 9 (by unfold maxLen; omega)
    generalize grownCap w (t.xs.length + 1) t.c 9 = gc at hrun hge hcm
    have hz : (Value.string ⟨#[]⟩).cells = #[.string ⟨#[]⟩] := rfl
    rw [hz] at hrun
    have hrow : SRow (w.drew.alloc (.cells ((sts t.xs).toArray ++ (sts [y]).toArray ++ Builtin.zeroCells #[.string ⟨#[]⟩] (gc - (t.xs.length + 1))) 9)) (some ⟨w.heap.size, 0, none⟩) gc (t.xs ++ [y]) := by
      unfold SRow
      have hl : (t.xs ++ [y]).length = t.xs.length + 1 := by simp
      rw [hl]
      refine ⟨by rw [sts_length, hl]; omega, .inr ⟨w.heap.size, gc, _, rfl, Nat.zero_le _, heap_alloc_new w.drew _, hge, hcm, ?_, ?_⟩⟩
      · simp only [Array.size_append, List.size_toArray, size_zeroCells, sts_length]
        simp; omega
      · simp only [Array.toList_append, List.append_assoc]
        rw [← List.append_assoc, ← sts_append]
        have : (t.xs.length + 1) * 1 = (sts (t.xs ++ [y])).length := by rw [sts_length, hl]; omega
        rw [this]
        exact List.take_left
    refine wpList_plain hgd fun _ hK => ?_
    unfold Oper.wp execOp
    simp only [ho, resolve, invoke, builtin, Sem.run_bind, Sem.run_pure, Result.andThen_ok, List.map_toArray, List.map_cons, List.map_nil, hs, hx, TR.v, hrun]
    have h2 := h ⟨w.heap.size, 0, gc, t.xs ++ [y]⟩ _ rfl (TR.lies.of_own hrow (by simp)) (((Chg.refl _ w).drew).alloc _) (.inr rfl)
    simp only [TR.v, List.length_append, List.length_cons, List.length_nil, Nat.zero_add] at h2
    exact hK _ _ h2
end Go.Proofs.Ytiolfnnkkflaiaa
