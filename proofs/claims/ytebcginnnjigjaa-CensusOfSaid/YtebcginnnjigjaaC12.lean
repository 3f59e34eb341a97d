/- A string's bytes appended to a row of bytes of its own. -/
import Derived.Test.YtebcginnnjigjaaC5
import Derived.Test.YtebcginnnjigjaaC11
import Derived.Test.YtebcginnnjigjaaC8
import Derived.Lib.AppendStr
open Go.RowKit
namespace Go.Proofs.Ytebcginnnjigjaa

theorem strCells_bv (s : ByteArray) : Lib.strCells s = bv (bl s) := rfl
section
variable {P : Program} (w : World)
theorem run_append_str (base : Nat) (t u ty e : TypeId) (i : TypeInfo) (ht : P.underlying t = some (.slice e)) (hu : P.underlying u = some .string) (hi : P.info? e = some i) (hz : i.zero = some (.int .u8 0))
    (hsize : i.size = 1) (hby : i.bytes = 1)
    (v : Value) (n : Nat) (xs : List Value) (hown : w.ownsRow base e 1 v n xs) (s : ByteArray)
    (h63 : n + s.size ≤ maxLen) (hbytes : n + s.size ≤ 140737488355328) (hbase : base ≤ w.heap.size) :
    ∃ v' w', (Builtin.append_ #[t, u] ty #[v, .string s]).run P w = .ok v' w' ∧ w'.ownsRow base e 1 v' (n + s.size) (xs ++ Lib.strCells s) ∧ w.grownBy w' v.ownBlock ∧
      (v'.ownBlock = v.ownBlock ∨ v'.ownBlock = some w.heap.size) := by
  obtain ⟨v', w', hr, h1, h2, h3⟩ := Lib.run_append_own_string (P := P) w base t u ty e i ht hu hi hz hsize hby v n xs hown s h63 hbytes hbase
  refine ⟨v', w', hr, h1, h2, ?_⟩
  rcases hown.2 with ⟨rfl, rfl⟩ | ⟨g, cap, cur, rfl, hbg, hg, hnc, hcm, hcs, htake⟩
  · by_cases hm : s.size = 0
    · rw [h3.2 ⟨rfl, hm⟩]; exact .inl rfl
    · have hq := run_append_nil_string (P := P) w t u ty e i (.int .u8 0) ht hu hi hz s (by omega) (by unfold maxLen at h63; omega) (by rw [hby]; omega)
      rw [hr] at hq
      injection hq with hq _
      rw [hq]; exact .inr rfl
  · by_cases hroom : n + s.size ≤ cap
    · have hcs' : cur.size = cap := by simpa using hcs
      have hq := Lib.run_append_room_string (P := P) w t u ty e i ht hu hi hsize g n cap cur hg s hroom (by omega)
      rw [hr] at hq
      injection hq with hq _
      rw [hq]; exact .inl rfl
    · have hxl : xs.length = n := by simpa using hown.1
      have holds : ∀ j u, xs[j]? = some u → w.cell? ((⟨g, 0, none⟩ : Addr).add j) = some u := hown.cells (g := g) rfl
      have hq := Lib.run_append_grow_string (P := P) w t u ty e i (.int .u8 0) ht hu hi hz ⟨g, 0, none⟩ n cap xs (by rw [hsize]; simpa using hxl) holds s (by omega) (by unfold maxLen at h63; omega) (by rw [hby]; exact growslice_fits (by omega) (by omega))
      rw [hr] at hq
      injection hq with hq _
      rw [hq]; exact .inr rfl
end

/-- A row of bytes of its own. -/
def BRow (w : World) (A : Option Addr) (c : Nat) (l : List UInt8) : Prop := OwnB w 0 A c l
section
variable {w w1 : World} {A : Option Addr} {c : Nat} {l : List UInt8}
theorem BRow.nil (w : World) : BRow w none 0 [] := OwnB.nil w 0
theorem BRow.reads (h : BRow w A c l) : Reads w 1 A l.length (bv l) := OwnB.reads h
theorem BRow.lt (h : BRow w A c l) {k : Nat} (hk : blk A = some k) : k < w.heap.size := (World.ownsRow.lt h k (by rw [ownBlock_slice]; exact hk)).2
theorem BRow.chg {F : Nat → Prop} (h : BRow w A c l) (hc : Chg F w w1) (hF : ∀ k, blk A = some k → ¬ F k) : BRow w1 A c l := ownsRow_chg h hc (fun k hk => hF k (by rw [ownBlock_slice] at hk; exact hk))
theorem BRow.below (h : BRow w A c l) (hb : Below w.heap.size w w1) : BRow w1 A c l := h.chg (F := fun _ => False) (.of_below hb) (fun _ _ f => f)
theorem BRow.of_own {base : Nat} (h : OwnB w base A c l) : BRow w A c l ∧ ∀ k, blk A = some k → base ≤ k := by
  refine ⟨⟨h.1, ?_⟩, fun k hk => own_base h k (by rw [ownBlock_slice]; exact hk)⟩
  rcases h.2 with h2 | ⟨g, cap, cur, hv, _, rest⟩
  · exact .inl h2
  · exact .inr ⟨g, cap, cur, hv, Nat.zero_le _, rest⟩
end
theorem wpList_append_bs {w : World} {ops : Array Oper} {rest : List Oper} {o : Oper} {a : Act} {Q : Exit → Act → World → Prop} (hgd : o.guard = none) (s x : Operand)
    (ho : o.op = .call { callee := .builtin .append, args := #[s, x], argTypes := #[61, 9] })
    (A : Option Addr) (c : Nat) (l : List UInt8) (hs : a.eval s = .slice A l.length c) (hrow : BRow w A c l) (y : ByteArray) (hx : a.eval x = .string y) (hlen : l.length + y.size ≤ 140737488355328)
    (h : ∀ A1 c1 w1, BRow w1 A1 c1 (l ++ bl y) → Chg (fun i => blk A = some i) w w1 → (∀ k, blk A1 = some k → blk A = some k ∨ k = w.heap.size) → wpList Try.prog ops Q rest (a.put o.dst (.slice A1 (l ++ bl y).length c1)) w1) : wpList Try.prog ops Q (o :: rest) a w := by
  obtain ⟨i0, hi, hz0, hz1, hz2⟩ := info_parts info_u8
  obtain ⟨v', w', hr, h1, h2, h3⟩ := run_append_str (P := Try.prog) w 0 61 9 o.type 5 i0 Try.underlying61 Try.underlying9 hi hz0 hz1 hz2 _ _ _ hrow y (by unfold maxLen; omega) hlen (Nat.zero_le _)
  refine wpList_plain hgd fun K hK => ?_
  obtain ⟨A1, c1, rfl, _⟩ := own_slice h1
  rw [ownBlock_slice] at h2
  have hll : l.length + y.size = (l ++ bl y).length := by rw [List.length_append, bl_length]
  rw [strCells_bv, ← bv_append, hll] at h1
  rw [hll] at hr
  unfold Oper.wp execOp
  simp only [ho, resolve, invoke, builtin, Sem.run_bind, Sem.run_pure, Result.andThen_ok, List.map_toArray, List.map_cons, List.map_nil, hs, hx, hr]
  refine hK _ _ (h A1 c1 w' h1 ⟨h2.os, h2.tape, h2.output, h2.size, fun i hi hF => h2.block i hi (fun e => hF e.symm)⟩ fun k hk => ?_)
  rw [ownBlock_slice, ownBlock_slice] at h3
  rcases h3 with h3 | h3
  · exact .inl (h3 ▸ hk)
  · rw [hk] at h3; exact .inr (Option.some.inj h3)
theorem wpList_append_bb {w : World} {ops : Array Oper} {rest : List Oper} {o : Oper} {a : Act} {Q : Exit → Act → World → Prop} (hgd : o.guard = none) (s x : Operand)
    (ho : o.op = .call { callee := .builtin .append, args := #[s, x], argTypes := #[61, 61] })
    (A : Option Addr) (c : Nat) (l : List UInt8) (hs : a.eval s = .slice A l.length c) (hrow : BRow w A c l) (A' : Option Addr) (c' : Nat) (m : List UInt8) (hx : a.eval x = .slice A' m.length c') (hr : Reads w 1 A' m.length (bv m)) (hlen : l.length + m.length ≤ 140737488355328)
    (h : ∀ A1 c1 w1, BRow w1 A1 c1 (l ++ m) → Chg (fun i => blk A = some i) w w1 → (∀ k, blk A1 = some k → blk A = some k ∨ k = w.heap.size) → wpList Try.prog ops Q rest (a.put o.dst (.slice A1 (l ++ m).length c1)) w1) : wpList Try.prog ops Q (o :: rest) a w := by
  obtain ⟨i0, hi, hz0, hz1, hz2⟩ := info_parts info_u8
  refine wpList_append_any w hgd s x 61 ho 0 5 i0 _ 1 1 Try.underlying61 hi hz0 hz1 hz2 rfl (by omega) _ _ _ hs hrow A' _ c' _ hx hr (oneCell_bv _) (by unfold maxLen; omega) (by omega) (Nat.zero_le _) ?_
  intro v' w' h1 h2 h3
  obtain ⟨A1, c1, rfl, _⟩ := own_slice h1
  rw [ownBlock_slice] at h2
  have hll : l.length + m.length = (l ++ m).length := by simp
  rw [← bv_append, hll] at h1
  rw [hll]
  refine h A1 c1 w' h1 ⟨h2.os, h2.tape, h2.output, h2.size, fun i hi hF => h2.block i hi (fun e => hF e.symm)⟩ fun k hk => ?_
  rw [ownBlock_slice, ownBlock_slice] at h3
  rcases h3 with h3 | h3
  · exact .inl (h3 ▸ hk)
  · rw [hk] at h3; exact .inr (Option.some.inj h3)
end Go.Proofs.Ytebcginnnjigjaa
