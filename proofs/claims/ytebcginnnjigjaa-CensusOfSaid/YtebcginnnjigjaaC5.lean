import Derived.Test.YtebcginnnjigjaaC4
import Derived.RegionTactic
import Derived.OwnWalk
import Derived.Lib.ConvBytes
import Derived.Laws.BytesArg
section
/- Appending onto a row of the call's own, whatever the source. -/
open Go.RowKit
namespace Go.Proofs.Ytebcginnnjigjaa

section
variable {P : Program} (w : World)

theorem run_append_of_nil (base : Nat) (t ty e : TypeId) (i : TypeInfo) (size : Nat) (ht : P.underlying t = some (.slice e)) (hi : P.info? e = some i)
    (v : Value) (n : Nat) (xs : List Value) (hown : w.ownsRow base e size v n xs) (c : Nat) : (Builtin.append_ #[t, t] ty #[v, .slice none 0 c]).run P w = .ok v w := by
  rcases hown.2 with ⟨rfl, rfl⟩ | ⟨g, cap, cur, rfl, _, _, hnc, _⟩
  · simp [Builtin.append_, run_underlying ht, sizeOf, typeInfo, hi, Builtin.lenOf, Builtin.firstCells]
  · simp [Builtin.append_, run_underlying ht, sizeOf, typeInfo, hi, Builtin.lenOf, Builtin.firstCells, hnc, storeCells]

theorem run_append_any (base : Nat) (t ty e : TypeId) (i : TypeInfo) (z : Value) (size bytes : Nat) (ht : P.underlying t = some (.slice e)) (hi : P.info? e = some i) (hz : i.zero = some z)
    (hsize : i.size = size) (hby : i.bytes = bytes) (hzs : z.cells.size = size) (hsz : 0 < size)
    (v : Value) (n : Nat) (xs : List Value) (hown : w.ownsRow base e size v n xs)
    (A : Option Addr) (m c : Nat) (news : List Value) (hr : Reads w size A m news) (h1 : ∀ u ∈ news, u.oneCell' = true)
    (h63 : n + m ≤ maxLen) (hbytes : (n + m) * bytes ≤ 140737488355328) (hbase : base ≤ w.heap.size) :
    ∃ v' w', (Builtin.append_ #[t, t] ty #[v, .slice A m c]).run P w = .ok v' w' ∧ w'.ownsRow base e size v' (n + m) (xs ++ news) ∧ w.grownBy w' v.ownBlock ∧
      (v'.ownBlock = v.ownBlock ∨ v'.ownBlock = some w.heap.size) := by
  rcases A with _ | ad
  · have hm : m = 0 := by
      rcases Nat.eq_zero_or_pos m with h0 | h0
      · exact h0
      · obtain ⟨ad, h, _⟩ := hr.2 h0
        cases h
    subst hm
    have hn : news = [] := List.eq_nil_of_length_eq_zero (by simpa using hr.1)
    subst hn
    exact ⟨v, w, run_append_of_nil w base t ty e i size ht hi v n xs hown c, by simpa using hown, World.grownBy.refl w _, .inl rfl⟩
  · have hcells : ∀ j u, news[j]? = some u → w.cell? (ad.add j) = some u := by
      intro j u hu
      rcases Nat.eq_zero_or_pos m with h0 | h0
      · subst h0
        have hn : news = [] := List.eq_nil_of_length_eq_zero (by simpa using hr.1)
        subst hn
        simp at hu
      · obtain ⟨ad', h, hc⟩ := hr.2 h0
        injection h with h
        subst h
        exact hc j u hu
    obtain ⟨v', w', hrun, h2, h3, _, h5⟩ := run_append_own_at (P := P) w base t ty e i z size bytes ht hi hz hsize hby hzs hsz v n xs hown ad m c news hr.1 hcells h1 h63 hbytes hbase
    exact ⟨v', w', hrun, h2, h3, h5⟩

theorem wp_append_any {o : Oper} {a : Act} {K : Act → World → Prop} {Q : Exit → Act → World → Prop} (s x : Operand) (t : TypeId)
    (ho : o.op = .call { callee := .builtin .append, args := #[s, x], argTypes := #[t, t] })
    (base : Nat) (e : TypeId) (i : TypeInfo) (z : Value) (size bytes : Nat) (ht : P.underlying t = some (.slice e)) (hi : P.info? e = some i) (hz : i.zero = some z)
    (hsize : i.size = size) (hby : i.bytes = bytes) (hzs : z.cells.size = size) (hsz : 0 < size)
    (v : Value) (n : Nat) (xs : List Value) (hs : a.eval s = v) (hown : w.ownsRow base e size v n xs)
    (A : Option Addr) (m c : Nat) (news : List Value) (hx : a.eval x = .slice A m c) (hr : Reads w size A m news) (h1 : ∀ u ∈ news, u.oneCell' = true)
    (h63 : n + m ≤ maxLen) (hbytes : (n + m) * bytes ≤ 140737488355328) (hbase : base ≤ w.heap.size)
    (h : ∀ v' w', w'.ownsRow base e size v' (n + m) (xs ++ news) → w.grownBy w' v.ownBlock → (v'.ownBlock = v.ownBlock ∨ v'.ownBlock = some w.heap.size) → K (a.put o.dst v') w') : o.wp P a w K Q := by
  obtain ⟨v', w', hrun, h2, h3, h4⟩ := run_append_any (P := P) w base t o.type e i z size bytes ht hi hz hsize hby hzs hsz v n xs hown A m c news hr h1 h63 hbytes hbase
  unfold Oper.wp execOp
  simp only [ho, resolve, invoke, builtin, Sem.run_bind, Sem.run_pure, Result.andThen_ok, List.map_toArray, List.map_cons, List.map_nil, hs, hx, hrun]
  exact h v' w' h2 h3 h4

theorem wpList_append_any {ops : Array Oper} {rest : List Oper} {o : Oper} {a : Act} {Q : Exit → Act → World → Prop} (hgd : o.guard = none) (s x : Operand) (t : TypeId)
    (ho : o.op = .call { callee := .builtin .append, args := #[s, x], argTypes := #[t, t] })
    (base : Nat) (e : TypeId) (i : TypeInfo) (z : Value) (size bytes : Nat) (ht : P.underlying t = some (.slice e)) (hi : P.info? e = some i) (hz : i.zero = some z)
    (hsize : i.size = size) (hby : i.bytes = bytes) (hzs : z.cells.size = size) (hsz : 0 < size)
    (v : Value) (n : Nat) (xs : List Value) (hs : a.eval s = v) (hown : w.ownsRow base e size v n xs)
    (A : Option Addr) (m c : Nat) (news : List Value) (hx : a.eval x = .slice A m c) (hr : Reads w size A m news) (h1 : ∀ u ∈ news, u.oneCell' = true)
    (h63 : n + m ≤ maxLen) (hbytes : (n + m) * bytes ≤ 140737488355328) (hbase : base ≤ w.heap.size)
    (h : ∀ v' w', w'.ownsRow base e size v' (n + m) (xs ++ news) → w.grownBy w' v.ownBlock → (v'.ownBlock = v.ownBlock ∨ v'.ownBlock = some w.heap.size) → wpList P ops Q rest (a.put o.dst v') w') : wpList P ops Q (o :: rest) a w :=
  wpList_plain hgd fun _ hK => wp_append_any w s x t ho base e i z size bytes ht hi hz hsize hby hzs hsz v n xs hs hown A m c news hx hr h1 h63 hbytes hbase fun v' w' h2 h3 h4 => hK _ _ (h v' w' h2 h3 h4)
end

theorem own_nil (W : World) (base : Nat) (e : TypeId) (size : Nat) : W.ownsRow base e size (.slice none 0 0) 0 [] := ⟨by simp, .inl ⟨rfl, rfl⟩⟩
theorem own_base {w : World} {base : Nat} {e : TypeId} {size n : Nat} {v : Value} {xs : List Value} (h : w.ownsRow base e size v n xs) (k : Nat) (hk : v.ownBlock = some k) : base ≤ k := by
  rcases h.2 with ⟨rfl, _⟩ | ⟨g, cap, cur, rfl, hb, _⟩
  · simp [Value.ownBlock] at hk
  · have : g = k := by simpa [Value.ownBlock] using hk
    omega
theorem own_slice {w : World} {base n : Nat} {e : TypeId} {size : Nat} {v : Value} {xs : List Value} (h : w.ownsRow base e size v n xs) : ∃ A c, v = .slice A n c ∧ n ≤ c := by
  rcases h.2 with ⟨rfl, rfl⟩ | ⟨g, cap, cur, rfl, _, _, hc, _⟩
  · exact ⟨none, 0, rfl, Nat.le_refl _⟩
  · exact ⟨_, cap, rfl, hc⟩
theorem own_below {w w1 : World} {base : Nat} {e : TypeId} {size n : Nat} {v : Value} {xs : List Value} (h : w.ownsRow base e size v n xs) (hb : Below w.heap.size w w1) : w1.ownsRow base e size v n xs :=
  h.kept ⟨hb.os, hb.tape, hb.output, hb.size, fun i hi _ => hb.block i hi⟩ (row := none) (by cases v.ownBlock <;> simp)

theorem Reads.drew {w : World} {sz n : Nat} {A : Option Addr} {xs : List Value} (h : Reads w sz A n xs) : Reads w.drew sz A n xs := h
theorem Reads.drewN {w : World} {sz n : Nat} {A : Option Addr} {xs : List Value} (h : Reads w sz A n xs) (k : Nat) : Reads (w.drewN k) sz A n xs := h

end Go.Proofs.Ytebcginnnjigjaa

end
section
/- Bytes of the call's own; bytes as a string and back. -/
open Go.RowKit
namespace Go.Proofs.Ytebcginnnjigjaa

/-! ### bytes -/
theorem info_u8 : (Try.prog.info? 5).map (fun i => (i.zero, i.size, i.bytes)) = some (some (.int .u8 0), 1, 1) := by kernel_rfl

/-- A row of bytes of the call's own. -/
def OwnB (w : World) (base : Nat) (A : Option Addr) (c : Nat) (l : List UInt8) : Prop := w.ownsRow base 5 1 (.slice A l.length c) l.length (bv l)
theorem OwnB.reads {w : World} {base : Nat} {A : Option Addr} {c : Nat} {l : List UInt8} (h : OwnB w base A c l) : Reads w 1 A l.length (bv l) := Reads.of_own h
theorem OwnB.nil (w : World) (base : Nat) : OwnB w base none 0 [] := own_nil w base _ 1
theorem OwnB.below {w w1 : World} {base : Nat} {A : Option Addr} {c : Nat} {l : List UInt8} (h : OwnB w base A c l) (hb : Below w.heap.size w w1) : OwnB w1 base A c l := own_below h hb
theorem OwnB.alloc {w : World} {base : Nat} {A : Option Addr} {c : Nat} {l : List UInt8} (h : OwnB w base A c l) (o : Obj) : OwnB (w.alloc o) base A c l := World.ownsRow.alloc h o
theorem OwnB.cap {w : World} {base : Nat} {A : Option Addr} {c : Nat} {l : List UInt8} (h : OwnB w base A c l) : l.length ≤ c := by
  obtain ⟨A', c', he, hc⟩ := own_slice h
  injection he with _ _ h3
  subst h3; exact hc
theorem OwnB.max {w : World} {base : Nat} {A : Option Addr} {c : Nat} {l : List UInt8} (h : OwnB w base A c l) : l.length ≤ maxLen := by
  rcases h.2 with ⟨_, h0⟩ | ⟨g', cap', cur, he, _, _, h1, h2, _⟩
  · rw [h0]; exact Nat.zero_le _
  · exact Nat.le_trans h1 h2

theorem OwnB.form {w : World} {base : Nat} {A : Option Addr} {c : Nat} {l : List UInt8} (h : OwnB w base A c l) (h0 : 0 < l.length) : ∃ g, A = some ⟨g, 0, none⟩ ∧ base ≤ g ∧ g < w.heap.size := by
  obtain ⟨g, cap, hv, hb, hlt⟩ := World.ownsRow.form h h0
  injection hv with hA
  exact ⟨g, hA, hb, hlt⟩
theorem OwnB.cell {w : World} {base g c : Nat} {l : List UInt8} (h : OwnB w base (some ⟨g, 0, none⟩) c l) {k : Nat} (hk : k < l.length) : w.cell? ⟨g, k, none⟩ = some (.int .u8 (l[k].toNat : Int)) := by
  rw [World.ownsRow.cellAt h k (by omega)]
  simp [bv, hk]
theorem OwnB.frozen {w : World} {base g c : Nat} {l : List UInt8} (h : OwnB w base (some ⟨g, 0, none⟩) c l) (k : Nat) : w.frozen? ⟨g, k, none⟩ = false := World.ownsRow.frozenAt h k
theorem OwnB.set {w : World} {base g c : Nat} {l : List UInt8} (h : OwnB w base (some ⟨g, 0, none⟩) c l) (k : Nat) (b : UInt8) : OwnB (w.setCell ⟨g, k, none⟩ (.int .u8 (b.toNat : Int))) base (some ⟨g, 0, none⟩) c (l.set k b) := by
  have h1 := (World.ownsRow.stored h k (.int .u8 (b.toNat : Int))).1
  have e : (bv l).set k (.int .u8 (b.toNat : Int)) = bv (l.set k b) := by simp [bv, List.map_set]
  rw [e] at h1
  unfold OwnB
  rw [List.length_set]
  exact h1

theorem wpList_append_bytes {w : World} {ops : Array Oper} {rest : List Oper} {o : Oper} {a : Act} {Q : Exit → Act → World → Prop} (w0 : World) (base : Nat) (hgd : o.guard = none) (s x : Operand)
    (ho : o.op = .call { callee := .builtin .append, args := #[s, x], argTypes := #[61, 61] })
    (A : Option Addr) (c : Nat) (l : List UInt8) (hs : a.eval s = .slice A l.length c) (hown : OwnB w base A c l)
    (A' : Option Addr) (c' : Nat) (l' : List UInt8) (hx : a.eval x = .slice A' l'.length c') (hr : Reads w 1 A' l'.length (bv l'))
    (hlen : l.length + l'.length ≤ 140737488355328) (hbel : Below base w0 w) (hbase : base ≤ w.heap.size)
    (h : ∀ A1 c1 L w1, Hid (L = l ++ l') → OwnB w1 base A1 c1 L → Below base w0 w1 → base ≤ w1.heap.size → wpList Try.prog ops Q rest (a.put o.dst (.slice A1 L.length c1)) w1) : wpList Try.prog ops Q (o :: rest) a w := by
  obtain ⟨i0, hi, hz0, hz1, hz2⟩ := info_parts info_u8
  refine wpList_append_any w hgd s x 61 ho base 5 i0 _ 1 1 Try.underlying61 hi hz0 hz1 hz2 rfl (by omega) _ _ _ hs hown A' _ c' _ hx hr (oneCell_bv _) (by unfold maxLen; omega) (by omega) hbase ?_
  intro v' w' h1 h2 h3
  obtain ⟨A1, c1, rfl, _⟩ := own_slice h1
  have hl : l.length + l'.length = (l ++ l').length := by simp
  rw [hl] at h1 ⊢
  rw [← bv_append] at h1
  exact h A1 c1 (l ++ l') w' rfl h1 (hbel.grown h2 hbase (own_base hown)) (Nat.le_trans hbase h2.size)


/-- The same as one step of a region that draws its order. -/
theorem step_append_bytes {w : World} {ops : Array Oper} {o : Oper} {a : Act} {K : Act → World → Prop} {Q : Exit → Act → World → Prop} {E : Prop} (w0 : World) (base : Nat) (hgd : o.guard = none) (s x : Operand)
    (ho : o.op = .call { callee := .builtin .append, args := #[s, x], argTypes := #[61, 61] })
    (A : Option Addr) (c : Nat) (l : List UInt8) (hs : a.eval s = .slice A l.length c) (hown : OwnB w base A c l)
    (A' : Option Addr) (c' : Nat) (l' : List UInt8) (hx : a.eval x = .slice A' l'.length c') (hr : Reads w 1 A' l'.length (bv l'))
    (hlen : l.length + l'.length ≤ 140737488355328) (hbel : Below base w0 w) (hbase : base ≤ w.heap.size)
    (h : ∀ A1 c1 L w1, Hid (L = l ++ l') → OwnB w1 base A1 c1 L → Below base w0 w1 → base ≤ w1.heap.size → K (a.put o.dst (.slice A1 L.length c1)) w1) :
    if Region.wanted o (yielded ops a.tmps) = true then Oper.wp Try.prog o a w K Q else E := by
  have hw : Region.wanted o (yielded ops a.tmps) = true := by simp [Region.wanted, hgd]
  rw [if_pos hw]
  obtain ⟨i0, hi, hz0, hz1, hz2⟩ := info_parts info_u8
  refine wp_append_any w s x 61 ho base 5 i0 _ 1 1 Try.underlying61 hi hz0 hz1 hz2 rfl (by omega) _ _ _ hs hown A' _ c' _ hx hr (oneCell_bv _) (by unfold maxLen; omega) (by omega) hbase ?_
  intro v' w' h1 h2 h3
  obtain ⟨A1, c1, rfl, _⟩ := own_slice h1
  have hl : l.length + l'.length = (l ++ l').length := by simp
  rw [hl] at h1 ⊢
  rw [← bv_append] at h1
  exact h A1 c1 (l ++ l') w' rfl h1 (hbel.grown h2 hbase (own_base hown)) (Nat.le_trans hbase h2.size)

/-- 'make([]byte, 0, n)' -/
theorem wpList_make_bytes {w : World} {ops : Array Oper} {rest : List Oper} {o : Oper} {a : Act} {Q : Exit → Act → World → Prop} (w0 : World) (base : Nat) (hgd : o.guard = none) (x y : Operand)
    (ho : o.op = Op.makeSlice 61 x y) (kl kc : IntKind) (C : Int) (n : Nat) (hx : a.eval x = .int kl 0) (hy : a.eval y = .int kc C) (hC : C = (n : Int)) (hn : n ≤ 281474976710656)
    (hbel : Below base w0 w) (hbase : base ≤ w.heap.size)
    (h : ∀ A1 w1, OwnB w1 base A1 n [] → Below base w0 w1 → base ≤ w1.heap.size → wpList Try.prog ops Q rest (a.put o.dst (.slice A1 0 n)) w1) : wpList Try.prog ops Q (o :: rest) a w := by
  obtain ⟨i0, hi, hz0, hz1, hz2⟩ := info_parts info_u8
  refine wpList_make_own w hgd x y 61 ho base 5 i0 _ 1 Try.underlying61 hi hz0 hz1 kl kc C n hx hy hC (by rw [hz2]; omega) (by unfold maxLen; omega) hbase ?_
  intro w1 h1 h2
  exact h _ w1 h1 (hbel.grown h2 hbase (by simp)) (Nat.le_trans hbase h2.size)

/-- Bytes as a string. -/
theorem run_string_of_bytes {w : World} {A : Option Addr} {l : List UInt8} (c : Nat) (hr : Reads w 1 A l.length (bv l)) : (convert 61 9 (.slice A l.length c)).run Try.prog w = .ok (.string ⟨l.toArray⟩) w := by
  rw [run_convert_bytes_string w 61 9 5 A l.length c Try.underlying61 Try.underlying5 Try.underlying9]
  rcases A with _ | ad
  · have h0 : l = [] := by
      rcases Nat.eq_zero_or_pos l.length with h0 | h0
      · exact List.eq_nil_of_length_eq_zero h0
      · obtain ⟨ad, h, _⟩ := hr.2 h0
        cases h
    subst h0
    rfl
  · have hl : (loadCells ad l.length).run Try.prog w = .ok ((l.map fun b => (b.toNat : Int)).map (Value.int .u8)).toArray w := by
      have := run_loadCells_list (P := Try.prog) w ad (bv l) (fun j v hj => by
        have h0 : 0 < l.length := by
          have := (List.getElem?_eq_some_iff.1 hj).1
          rw [bv_length] at this; omega
        obtain ⟨ad', h, hc⟩ := hr.2 h0
        injection h with h
        subst h
        exact hc j v hj)
      rw [bv_length] at this
      rw [this]
      simp [bv, Function.comp_def]
    rw [run_bytesToString w ad l.length c _ hl, foldl_push_bytes]
    congr 2
    apply ByteArray.ext
    apply Array.toList_inj.1
    simp [ByteArray.empty, ByteArray.emptyWithCapacity, Function.comp_def]
    rfl

theorem Reads.far {w : World} {A : Option Addr} {l : List UInt8} {g : Nat} {cs : Array Value} {t : TypeId} {fr : Nat × Nat} (h : Reads w 1 A l.length (bv l)) (hg : w.heap[g]? = some (.cells cs t fr))
    (hcs : ∀ b : UInt8, (.int .u8 (b.toNat : Int)) ∉ cs) (i : Nat) (v : Value) : Reads (w.setCell ⟨g, i, none⟩ v) 1 A l.length (bv l) := by
  refine ⟨h.1, fun hn => ?_⟩
  obtain ⟨ad, e, hc⟩ := h.2 hn
  refine ⟨ad, e, fun j u hu => ?_⟩
  have h1 := hc j u hu
  rw [World.cell?_setCell_other _ _ _ _ ?_]
  · exact h1
  · intro he
    rw [← he, cell_of_row _ _ _ _ _ _ hg] at h1
    have hu' : u ∈ bv l := List.mem_of_getElem? hu
    simp only [bv, List.mem_map] at hu'
    obtain ⟨b, _, rfl⟩ := hu'
    exact hcs b (Array.mem_of_getElem? h1)

end Go.Proofs.Ytebcginnnjigjaa

end
section
/- Cutting a slice: 'x[lo:hi]', 'x[lo:]', 'x[:hi]', whatever it reads as. -/
open Go.RowKit
namespace Go.Proofs.Ytebcginnnjigjaa

section
variable {P : Program}
theorem Reads.drop_ {w : World} {sz n lo c : Nat} {A : Option Addr} {xs : List Value} (h : Reads w sz A n xs) (hlo : lo ≤ n) (hc : n ≤ c) :
    Reads w sz (if c = lo then A else A.map (·.add (lo * sz))) (n - lo) (xs.drop (lo * sz)) := by
  refine ⟨by rw [List.length_drop, h.1, Nat.sub_mul], fun hn => ?_⟩
  obtain ⟨ad, rfl, hcell⟩ := h.2 (by omega)
  rw [if_neg (by omega)]
  refine ⟨ad.add (lo * sz), rfl, fun j u hu => ?_⟩
  rw [add_of_add]
  exact hcell _ u (by rw [← hu, List.getElem?_drop])
theorem Reads.take_ {w : World} {sz n k : Nat} {A : Option Addr} {xs : List Value} (h : Reads w sz A n xs) (hk : k ≤ n) : Reads w sz A k (xs.take (k * sz)) := by
  refine ⟨by rw [List.length_take, h.1, Nat.min_eq_left (Nat.mul_le_mul_right _ hk)], fun hn => ?_⟩
  obtain ⟨ad, rfl, hcell⟩ := h.2 (by omega)
  refine ⟨ad, rfl, fun j u hu => hcell j u ?_⟩
  rw [List.getElem?_take] at hu
  split at hu
  · exact hu
  · cases hu

variable (t e : TypeId) {i : TypeInfo} (ht : P.underlying t = some (.slice e)) (hi : P.info? e = some i) (size : Nat) (A : Option Addr) (n c : Nat)
include ht hi
/-- 'x[:hi]' -/
theorem cut_to (hi' : Nat) (h2 : hi' ≤ n) (hc : n ≤ c) :
    (∀ W : World, (Instr.slice t (.slice A n c) none (some (.int .i64 (hi' : Int))) none).run P W = .ok (.slice A hi' c) W) ∧
    (∀ w xs, Reads w size A n xs → Reads w size A hi' (xs.take (hi' * size))) := by
  refine ⟨fun W => ?_, fun w xs h => h.take_ h2⟩
  have hel : P.elem t = e := by simp [Program.elem, ht]
  have hu : P.underlying t = some (.slice (P.elem t)) := by rw [hel]; exact ht
  have ha : (A.map fun x => x.add 0) = A := by cases A <;> simp [Addr.add]
  rw [run_slice_h W t A n c hu .i64 hi' (by omega) (by omega), hel]
  simp [sizeOf, typeInfo, hi, sliced, Result.andThen, ha]
/-- 'x[lo:hi]' -/
theorem cut_mid (hsz : i.size = size) (lo hi' : Nat) (h1 : lo ≤ hi') (h2 : hi' ≤ n) (hc : n ≤ c) : ∃ A' : Option Addr,
    (∀ W : World, (Instr.slice t (.slice A n c) (some (.int .i64 (lo : Int))) (some (.int .i64 (hi' : Int))) none).run P W = .ok (.slice A' (hi' - lo) (c - lo)) W) ∧
    (∀ w xs, Reads w size A n xs → Reads w size A' (hi' - lo) ((xs.drop (lo * size)).take ((hi' - lo) * size))) := by
  refine ⟨if c = lo then A else A.map (·.add (lo * size)), fun W => ?_, fun w xs h => (h.drop_ (by omega) hc).take_ (by omega)⟩
  have hel : P.elem t = e := by simp [Program.elem, ht]
  have hu : P.underlying t = some (.slice (P.elem t)) := by rw [hel]; exact ht
  rw [run_slice_lh W t A n c hu .i64 .i64 lo hi' (by omega) (by omega) (by omega), hel]
  simp [sizeOf, typeInfo, hi, hsz, sliced, Result.andThen]
/-- 'x[lo:]' -/
theorem cut_from (hsz : i.size = size) (lo : Nat) (h1 : lo ≤ n) (hc : n ≤ c) : ∃ A' : Option Addr,
    (∀ W : World, (Instr.slice t (.slice A n c) (some (.int .i64 (lo : Int))) none none).run P W = .ok (.slice A' (n - lo) (c - lo)) W) ∧
    (∀ w xs, Reads w size A n xs → Reads w size A' (n - lo) (xs.drop (lo * size))) := by
  refine ⟨if c = lo then A else A.map (·.add (lo * size)), fun W => ?_, fun w xs h => h.drop_ h1 hc⟩
  have hel : P.elem t = e := by simp [Program.elem, ht]
  have hu : P.underlying t = some (.slice (P.elem t)) := by rw [hel]; exact ht
  rw [run_slice_l W t A n c hu .i64 lo (by omega) (by omega), hel]
  simp [sizeOf, typeInfo, hi, hsz, sliced, Result.andThen]
end

/-! ### bytes -/
section
variable (A : Option Addr) (c : Nat) (l : List UInt8)
theorem cutB_mid (lo hi : Nat) (h1 : lo ≤ hi) (h2 : hi ≤ l.length) (hc : l.length ≤ c) : ∃ A' : Option Addr,
    (∀ W : World, (Instr.slice 61 (.slice A l.length c) (some (.int .i64 (lo : Int))) (some (.int .i64 (hi : Int))) none).run Try.prog W = .ok (.slice A' (hi - lo) (c - lo)) W) ∧
    (∀ w, Reads w 1 A l.length (bv l) → Reads w 1 A' ((l.drop lo).take (hi - lo)).length (bv ((l.drop lo).take (hi - lo)))) := by
  obtain ⟨i0, hi0, _, hz1, _⟩ := info_parts info_u8
  obtain ⟨A', h3, h4⟩ := cut_mid (P := Try.prog) 61 5 Try.underlying61 hi0 1 A l.length c hz1 lo hi h1 h2 hc
  refine ⟨A', h3, fun w h => ?_⟩
  have := h4 w _ h
  have e : ((l.drop lo).take (hi - lo)).length = hi - lo := by simp; omega
  rw [e]
  simpa [bv, List.map_take, List.map_drop] using this
theorem cutB_from (lo : Nat) (h1 : lo ≤ l.length) (hc : l.length ≤ c) : ∃ A' : Option Addr,
    (∀ W : World, (Instr.slice 61 (.slice A l.length c) (some (.int .i64 (lo : Int))) none none).run Try.prog W = .ok (.slice A' (l.length - lo) (c - lo)) W) ∧
    (∀ w, Reads w 1 A l.length (bv l) → Reads w 1 A' (l.drop lo).length (bv (l.drop lo))) := by
  obtain ⟨i0, hi0, _, hz1, _⟩ := info_parts info_u8
  obtain ⟨A', h3, h4⟩ := cut_from (P := Try.prog) 61 5 Try.underlying61 hi0 1 A l.length c hz1 lo h1 hc
  refine ⟨A', h3, fun w h => ?_⟩
  have := h4 w _ h
  rw [List.length_drop]
  simpa [bv, List.map_drop] using this
theorem cutB_to (hi : Nat) (h2 : hi ≤ l.length) (hc : l.length ≤ c) :
    (∀ W : World, (Instr.slice 61 (.slice A l.length c) none (some (.int .i64 (hi : Int))) none).run Try.prog W = .ok (.slice A hi c) W) ∧
    (∀ w, Reads w 1 A l.length (bv l) → Reads w 1 A (l.take hi).length (bv (l.take hi))) := by
  obtain ⟨i0, hi0, _, _, _⟩ := info_parts info_u8
  obtain ⟨h3, h4⟩ := cut_to (P := Try.prog) 61 5 Try.underlying61 hi0 1 A l.length c hi h2 hc
  refine ⟨h3, fun w h => ?_⟩
  have := h4 w _ h
  have e : (l.take hi).length = hi := by simp; omega
  rw [e]
  simpa [bv, List.map_take] using this
end

end Go.Proofs.Ytebcginnnjigjaa

end
section
/- The contracts of word's functions: numbers as bytes, the highest first, and back. -/
open Go.RowKit
namespace Go.Proofs.Ytebcginnnjigjaa

/-! ### what is reckoned -/
/-- Can a width be? -/
def wOk (x : Int) : Bool := decide (1 ≤ x ∧ x ≤ 8)
theorem wOk_true {x : Int} (h1 : 1 ≤ x) (h2 : x ≤ 8) : wOk x = true := by simp [wOk, h1, h2]
theorem wOk_false {x : Int} (h : x < 1 ∨ 8 < x) : wOk x = false := by simp [wOk]; omega
/-- So many bytes of a number, the highest first. -/
def be : Nat → Nat → List UInt8
  | 0, _ => []
  | k + 1, n => UInt8.ofNat (n / 256 ^ k % 256) :: be k n
theorem be_succ (k n : Nat) : be (k + 1) n = UInt8.ofNat (n / 256 ^ k % 256) :: be k n := rfl
theorem be_zero (n : Nat) : be 0 n = [] := rfl
theorem be_get (k n j : Nat) (h : j < k) : (be k n)[j]? = some (UInt8.ofNat (n / 256 ^ (k - 1 - j) % 256)) := by
  induction k generalizing j with
  | zero => omega
  | succ k ih =>
    cases j with
    | zero => simp [be]
    | succ j =>
      have := ih j (by omega)
      simp only [be, List.getElem?_cons_succ, this]
      congr 5
      omega
theorem be_length (k n : Nat) : (be k n).length = k := by
  induction k with
  | zero => rfl
  | succ k ih => simp [be, ih]
theorem be_take_succ (k n j : Nat) (h : j < k) : (be k n).take (j + 1) = (be k n).take j ++ [UInt8.ofNat (n / 256 ^ (k - 1 - j) % 256)] := by
  rw [List.take_add_one, be_get k n j h]; rfl
/-- A number behind bytes. -/
def wPut (b : List UInt8) (w : Int) (n : Nat) : List UInt8 := if wOk w = true then b ++ be w.toNat n else b
theorem wPut_ok {b : List UInt8} {w : Int} {n : Nat} (h : wOk w = true) : wPut b w n = b ++ be w.toNat n := by unfold wPut; rw [if_pos h]
theorem wPut_bad {b : List UInt8} {w : Int} {n : Nat} (h : wOk w = false) : wPut b w n = b := by unfold wPut; rw [if_neg (by rw [h]; decide)]
/-- Bytes as a number. -/
def beNum (l : List UInt8) : Nat := l.foldl (fun n c => n * 256 + c.toNat) 0
theorem beNum_snoc (l : List UInt8) (c : UInt8) : beNum (l ++ [c]) = beNum l * 256 + c.toNat := by simp [beNum]
theorem beNum_lt (l : List UInt8) : beNum l < 256 ^ l.length := by
  obtain ⟨r, rfl⟩ : ∃ r : List UInt8, l = r.reverse := ⟨l.reverse, by simp⟩
  induction r with
  | nil => simp [beNum]
  | cons c r ih =>
    rw [List.reverse_cons, beNum_snoc, List.length_append, List.length_singleton, Nat.pow_succ]
    have := c.toNat_lt
    omega
/-- Why no number can be got: 0 if it can. -/
def gErr (len : Nat) (at_ w : Int) : Nat := if w < 1 ∨ 8 < w ∨ at_ < 0 then 2 else if (len : Int) < at_ + w then 7 else 0
def gNum (l : List UInt8) (at_ w : Int) : Nat := if gErr l.length at_ w = 0 then beNum ((l.drop at_.toNat).take w.toNat) else 0
theorem gErr_bad {len : Nat} {at_ w : Int} (h : w < 1 ∨ 8 < w ∨ at_ < 0) : gErr len at_ w = 2 := by unfold gErr; rw [if_pos h]
theorem gErr_short {len : Nat} {at_ w : Int} (h : ¬ (w < 1 ∨ 8 < w ∨ at_ < 0)) (h2 : (len : Int) < at_ + w) : gErr len at_ w = 7 := by unfold gErr; rw [if_neg h, if_pos h2]
theorem gErr_ok {len : Nat} {at_ w : Int} (h : ¬ (w < 1 ∨ 8 < w ∨ at_ < 0)) (h2 : ¬ (len : Int) < at_ + w) : gErr len at_ w = 0 := by unfold gErr; rw [if_neg h, if_neg h2]
theorem gNum_ok {l : List UInt8} {at_ w : Int} (h : gErr l.length at_ w = 0) : gNum l at_ w = beNum ((l.drop at_.toNat).take w.toNat) := by unfold gNum; rw [if_pos h]
theorem gNum_bad {l : List UInt8} {at_ w : Int} (h : gErr l.length at_ w ≠ 0) : gNum l at_ w = 0 := by unfold gNum; rw [if_neg h]
attribute [irreducible] wOk be wPut beNum gErr gNum

/-! ### word.right -/
theorem right_any (x : Int) (w : World) : Calls Try.prog 54 #[.int .i64 x] w fun e w' => e = .returned (.bool (wOk x)) ∧ w = w' := by
  by_cases h1 : 1 ≤ x
  · by_cases h2 : x ≤ 8
    · have H := Lib.hid (wOk_true h1 h2)
      go_enter Try.func54, Try.ntmps54
      go_wp2
      go_ret
      exact ⟨by rw [H.out]; rfl, rfl⟩
    · have H := Lib.hid (wOk_false (x := x) (by omega))
      go_enter Try.func54, Try.ntmps54
      go_wp2
      go_ret
      exact ⟨by rw [H.out]; rfl, rfl⟩
  · have H := Lib.hid (wOk_false (x := x) (by omega))
    go_enter Try.func54, Try.ntmps54
    go_wp2
    go_ret
    exact ⟨by rw [H.out]; rfl, rfl⟩

/-! ### word.Get -/
theorem get_bad (A : Option Addr) (n c : Nat) (k x : Int) (h : x < 1 ∨ 8 < x ∨ k < 0) (w : World) :
    Calls Try.prog 34 #[.slice A n c, .int .i64 k, .int .i64 x] w fun e w' => e = .returned (.tuple #[.int .u64 0, .int .i64 2]) ∧ w = w' := by
  by_cases hw : wOk x = true
  · have hk : k < 0 := by
      rcases h with h | h | h
      · rw [wOk_false (.inl h)] at hw; cases hw
      · rw [wOk_false (.inr h)] at hw; cases hw
      · exact h
    clear h
    go_enter Try.func34, Try.ntmps34
    go_wp2_with (go_at_call 54; refine (right_any _ _).mono ?_; rintro e w1 ⟨rfl, rfl⟩)
    go_ret2
    exact ⟨rfl, rfl⟩
  · have hw' : wOk x = false := by simpa using hw
    clear hw h
    go_enter Try.func34, Try.ntmps34
    go_wp2_with (go_at_call 54; refine (right_any _ _).mono ?_; rintro e w1 ⟨rfl, rfl⟩)
    go_ret2
    exact ⟨rfl, rfl⟩

theorem get_short (A : Option Addr) (n c : Nat) (k x : Int) (h1 : 1 ≤ x) (h2 : x ≤ 8) (h3 : 0 ≤ k) (h4 : (n : Int) < k + x) (w : World) :
    Calls Try.prog 34 #[.slice A n c, .int .i64 k, .int .i64 x] w fun e w' => e = .returned (.tuple #[.int .u64 0, .int .i64 7]) ∧ w = w' := by
  have hw := wOk_true h1 h2
  by_cases hk : (n : Int) < k
  · go_enter Try.func34, Try.ntmps34
    go_wp2_with (go_at_call 54; refine (right_any _ _).mono ?_; rintro e w1 ⟨rfl, rfl⟩)
    go_ret2
    exact ⟨rfl, rfl⟩
  · go_enter Try.func34, Try.ntmps34
    go_wp2_with (go_at_call 54; refine (right_any _ _).mono ?_; rintro e w1 ⟨rfl, rfl⟩)
    go_ret2
    exact ⟨rfl, rfl⟩

theorem or_byte (n : Nat) (c : UInt8) (h : n * 256 < 18446744073709551616) : bits BinOp.or IntKind.u64 ((n : Int) * 256) (c.toNat : Int) = ((n * 256 + c.toNat : Nat) : Int) := by
  have hc := c.toNat_lt
  have := bits_join .u64 64 (by decide) (fun x h0 h1 => by rw [IntKind.wrap_u64]; omega) 8 ((n : Int) * 256) (c.toNat : Int) (by omega) (by omega) (by omega) (by omega) (by omega) (by omega)
  rw [this]; omega

theorem beNum_take_succ (l : List UInt8) (k : Nat) (h : k < l.length) : beNum (l.take (k + 1)) = beNum (l.take k) * 256 + l[k].toNat := by
  rw [List.take_succ_eq_append_getElem h, beNum_snoc]
theorem beNum_small (l : List UInt8) (k : Nat) (hk : k < 8) : beNum (l.take k) * 256 < 18446744073709551616 := by
  have h1 := beNum_lt (l.take k)
  have h2 : 256 ^ (l.take k).length ≤ 256 ^ 7 := Nat.pow_le_pow_right (by omega) (by simp; omega)
  have : (256 : Nat) ^ 7 = 72057594037927936 := by decide
  omega
theorem beNum_nil : beNum [] = 0 := by unfold beNum; rfl

set_option maxRecDepth 100000 in
theorem get_ok (A : Option Addr) (l : List UInt8) (c : Nat) (k x : Nat) (h1 : 1 ≤ x) (h2 : x ≤ 8) (h4 : k + x ≤ l.length) (w : World) (hr : Reads w 1 A l.length (bv l)) (hc : l.length ≤ c) (hm : l.length ≤ maxLen) :
    Calls Try.prog 34 #[.slice A l.length c, .int .i64 k, .int .i64 x] w fun e w' => e = .returned (.tuple #[.int .u64 (beNum ((l.drop k).take x) : Nat), .int .i64 0]) ∧ w = w' := by
  unfold maxLen at hm
  have hw := wOk_true (x := (x : Int)) (by omega) (by omega)
  obtain ⟨A', hcut, hA'⟩ := cutB_mid A c l k (k + x) (by omega) h4 hc
  have hR := hA' w hr
  have ex : k + x - k = x := by omega
  rw [ex] at hcut hR
  have hq : ((l.drop k).take x).length = x := by simp; omega
  generalize hQ : (l.drop k).take x = q at hR hq
  have hcut' : ∀ W : World, (Instr.slice 61 (.slice A l.length c) (some (.int .i64 (k : Int))) (some (.int .i64 ((k : Int) + (x : Int)))) none).run Try.prog W = .ok (.slice A' x (c - k)) W := by
    intro W
    have := hcut W
    rwa [Int.natCast_add] at this
  have HR := Lib.hid hR
  have Hq := Lib.hid hq
  clear hr hcut hA' ex hR hq hQ
  go_enter Try.func34, Try.ntmps34
  go_wp2_with (go_at_call 54; refine (right_any _ _).mono ?_; rintro e w1 ⟨rfl, rfl⟩)
  go_loop [8, 39] (fun y i => ∃ j m : Nat, j ≤ x ∧ i = .int .i64 j ∧ y = .int .u64 m ∧ Hid (m = beNum (q.take j))) (fun _ i => (x - (intOf i).toNat))
  case atStart => exact ⟨0, 0, by omega, rfl, rfl, by rw [List.take_zero, beNum_nil]; rfl⟩
  case round =>
    obtain ⟨j, m, hj, rfl, rfl, H⟩ := hrel
    clear hcut'
    by_cases hlt : j < x
    · have hjq : j < q.length := by rw [Hq.out]; exact hlt
      obtain ⟨ad, rfl, hv⟩ := HR.out.byte hjq
      have hlc : (q[j].toNat : Int) < 256 := by have := q[j].toNat_lt; omega
      have hsm := beNum_small q j (by omega)
      rw [← H.out] at hsm
      have hor := or_byte m q[j] hsm
      have hs := beNum_take_succ q j hjq
      rw [← H.out] at hs
      generalize q[j] = b at hv hlc hor hs
      have Hs := Lib.hid hs
      have Hsm := Lib.hid hsm
      have hwr : IntKind.u64.wrap ((m : Int) * 256) = (m : Int) * 256 := by rw [IntKind.wrap_u64]; omega
      clear hs hsm hjq
      go_wp2
      go_round
      case rel => exact ⟨j + 1, m * 256 + b.toNat, by omega, by go_num, rfl, Hs.out.symm⟩
      case measure => simp [intOf]; omega
    · obtain rfl : j = x := by omega
      rw [List.take_of_length_le (by rw [Hq.out]; exact Nat.le_refl _)] at H
      go_wp2
      go_ret2
      exact ⟨by rw [← H.out]; rfl, rfl⟩

/-- Whatever is asked. -/
theorem get_any (A : Option Addr) (l : List UInt8) (c : Nat) (k x : Int) (w : World) (hr : Reads w 1 A l.length (bv l)) (hc : l.length ≤ c) (hm : l.length ≤ maxLen) :
    Calls Try.prog 34 #[.slice A l.length c, .int .i64 k, .int .i64 x] w fun e w' => e = .returned (.tuple #[.int .u64 (gNum l k x : Nat), .int .i64 (gErr l.length k x : Nat)]) ∧ w = w' := by
  by_cases hb : x < 1 ∨ 8 < x ∨ k < 0
  · have he := gErr_bad (len := l.length) hb
    rw [gNum_bad (by rw [he]; decide), he]
    exact get_bad A _ c k x hb w
  · by_cases hs : (l.length : Int) < k + x
    · have he := gErr_short hb hs
      rw [gNum_bad (by rw [he]; decide), he]
      exact get_short A _ c k x (by omega) (by omega) (by omega) hs w
    · have he := gErr_ok hb hs
      rw [gNum_ok he, he]
      obtain ⟨k, rfl⟩ := Int.eq_ofNat_of_zero_le (show 0 ≤ k by omega)
      obtain ⟨x, rfl⟩ := Int.eq_ofNat_of_zero_le (show 0 ≤ x by omega)
      exact get_ok A l c k x (by omega) (by omega) (by omega) w hr hc hm

/-! ### word.Put -/
theorem shr_byte (n k j : Nat) : ((UInt8.ofNat (n / 256 ^ (k - 1 - j) % 256)).toNat : Int) = (n : Int) / 2 ^ (8 * (k - 1 - j)) % 256 := by
  have e : (256 : Nat) ^ (k - 1 - j) = 2 ^ (8 * (k - 1 - j)) := by rw [show (256 : Nat) = 2 ^ 8 by decide, ← Nat.pow_mul]
  rw [e, UInt8.toNat_ofNat']
  have : n / 2 ^ (8 * (k - 1 - j)) % 256 % 2 ^ 8 = n / 2 ^ (8 * (k - 1 - j)) % 256 := by omega
  rw [this]
  simp
set_option maxRecDepth 100000 in
theorem put_any (A : Option Addr) (l : List UInt8) (c : Nat) (x : Int) (n : Nat) (hn : n < 18446744073709551616) (w : World) (hr : Reads w 1 A l.length (bv l)) (hl : l.length + 8 ≤ 140737488355328) :
    Calls Try.prog 40 #[.slice A l.length c, .int .i64 x, .int .u64 n] w fun e w' => ∃ A' c', e = .returned (.slice A' (wPut l x n).length c') ∧ OwnB w' w.heap.size A' c' (wPut l x n) ∧ Below w.heap.size w w' := by
  have Hn := Lib.hid hn
  have Hr := Lib.hid hr
  clear hn hr
  go_enter Try.func40, Try.ntmps40
  go_wp2_with (at_make; refine wpList_make_bytes w w.heap.size rfl (.const (.int .i64 0)) (.tmp 11) rfl .i64 .i64 _ (l.length + 8) rfl rfl (by omega) (by omega) (Below.refl _ _) (Nat.le_refl _) ?_)
  intro A1 w1 hown1 hb1 hB1
  have Ho1 := Lib.hid hown1
  have Hb1 := Lib.hid hb1
  clear hown1 hb1
  go_wp2_with (at_builtin; refine wpList_append_bytes w w.heap.size rfl (.tmp 13) (.tmp 14) rfl A1 (l.length + 8) [] rfl Ho1.out A c l rfl (Hr.out.below Hb1.out) (by simp; omega) Hb1.out hB1 ?_)
  intro A2 c2 L w2 hL hown2 hb2 hB2
  obtain rfl : L = l := by simpa using hL.out
  have Ho2 := Lib.hid hown2
  have Hb2 := Lib.hid hb2
  clear hown2 hb2 hL Ho1 Hb1 hB1 Hr
  by_cases hw : wOk x = true
  · have hx : 1 ≤ x ∧ x ≤ 8 := by unfold wOk at hw; simpa using hw
    obtain ⟨k, rfl⟩ := Int.eq_ofNat_of_zero_le (show 0 ≤ x by omega)
    have Hp := Lib.hid (wPut_ok (b := L) (n := n) hw)
    have Hbl := Lib.hid (be_length k n)
    have hk1 : 1 ≤ k := by omega
    have hk8 : k ≤ 8 := by omega
    clear hx
    go_wp2_with (go_at_call 54; refine (right_any _ _).mono ?_; rintro e w3 ⟨rfl, rfl⟩)
    go_loopw [7, 8] (fun v i wr => ∃ (j : Nat) (s : Int) (A3 : Option Addr) (c3 : Nat) (M : List UInt8), j ≤ k ∧ s = 8 * (k : Int) - 8 * (j : Int) - 8 ∧ i = .int .i64 s ∧ Hid (M = L ++ (be k n).take j) ∧ v = .slice A3 M.length c3 ∧ Hid (OwnB wr w.heap.size A3 c3 M) ∧ Hid (Below w.heap.size w wr) ∧ w.heap.size ≤ wr.heap.size) (fun _ i _ => (intOf i + 8).toNat)
    case atStart => exact ⟨0, _, A2, c2, L, by omega, rfl, by go_num, by show _ = _; simp, rfl, Ho2, Hb2, hB2⟩
    case round =>
      obtain ⟨j, s, A3, c3, M, hj, hs, rfl, hM, rfl, Ho3, Hb3, hB3⟩ := hrel
      clear Ho2 Hb2 hB2
      have hMl : M.length = L.length + j := by rw [hM.out, List.length_append, List.length_take, Hbl.out]; omega
      by_cases hjk : j < k
      · have Hsh := Lib.hid (shr_byte n k j)
        have Hts := Lib.hid (be_take_succ k n j hjk)
        generalize UInt8.ofNat (n / 256 ^ (k - 1 - j) % 256) = b at Hsh Hts
        obtain ⟨q, rfl⟩ := Int.eq_ofNat_of_zero_le (show 0 ≤ s by omega)
        have hq : q = 8 * (k - 1 - j) := by omega
        rw [← hq] at Hsh
        have hq56 : q ≤ 56 := by omega
        have hM8 : M.length + 1 ≤ 140737488355328 := by omega
        have Hs := Lib.hid hs
        clear hq hs hMl
        have hrb : Reads (wr.alloc (.cells #[.int .u8 (b.toNat : Int)] 5)) 1 (some ⟨wr.heap.size, 0, none⟩) [b].length (bv [b]) := Reads.of_block (n := 1) (heap_alloc_new _ _) rfl
        have Hrb := Lib.hid hrb
        clear hrb
        go_wp2_with (at_builtin; rw [← Hsh.out]; refine wpList_append_bytes w w.heap.size rfl (.tmp 27) (.tmp 32) rfl A3 c3 M rfl (Ho3.out.alloc _) (some ⟨wr.heap.size, 0, none⟩) 1 [b] rfl Hrb.out (by simp; omega) (Hb3.out.alloc hB3 _) (by simp; omega) ?_)
        intro A4 c4 M' w4 hM' hown4 hb4 hB4
        have Ho4 := Lib.hid hown4
        have Hb4 := Lib.hid hb4
        clear hown4 hb4 Hrb Ho3 Hb3 hB3
        go_wp2
        go_roundw
        case rel => exact ⟨j + 1, (q : Int) - 8, A4, c4, M', by omega, by have := Hs.out; omega, by go_num, by show _ = _; rw [hM'.out, hM.out, Hts.out, List.append_assoc], rfl, Ho4, Hb4, hB4⟩
        case measure => simp [intOf]; omega
      · obtain rfl : j = k := by omega
        have hM2 : M = wPut L (j : Int) n := by rw [hM.out, Hp.out, List.take_of_length_le (by rw [Hbl.out]; exact Nat.le_refl _), Int.toNat_natCast]
        have HM2 := Lib.hid hM2
        clear hM2 hM hMl
        go_wp2
        go_ret
        rw [← HM2.out]
        exact ⟨A3, c3, rfl, Ho3.out, Hb3.out⟩
  · have hw' : wOk x = false := by simpa using hw
    have Hp := Lib.hid (wPut_bad (b := L) (n := n) hw')
    clear hw
    go_wp2_with (go_at_call 54; refine (right_any _ _).mono ?_; rintro e w3 ⟨rfl, rfl⟩)
    go_ret
    rw [Hp.out]
    exact ⟨A2, c2, rfl, Ho2.out, Hb2.out⟩

end Go.Proofs.Ytebcginnnjigjaa

end
section
/- The plain law of word: what is put is got back, as far as its width goes. -/
open Go.RowKit
namespace Go.Proofs.Ytebcginnnjigjaa

theorem beNum_fold (l : List UInt8) : ∀ n : Nat, l.foldl (fun n c => n * 256 + c.toNat) n = n * 256 ^ l.length + l.foldl (fun n c => n * 256 + c.toNat) 0 := by
  induction l with
  | nil => intro n; simp
  | cons c l ih =>
    intro n
    rw [List.foldl_cons, ih, List.foldl_cons, ih (0 * 256 + c.toNat), List.length_cons, Nat.pow_succ, Nat.zero_mul, Nat.zero_add, Nat.add_mul, Nat.mul_assoc, Nat.mul_comm 256, Nat.add_assoc]
theorem beNum_cons (c : UInt8) (l : List UInt8) : beNum (c :: l) = c.toNat * 256 ^ l.length + beNum l := by
  unfold beNum
  rw [List.foldl_cons, beNum_fold]
  simp
theorem beNum_be (k n : Nat) : beNum (be k n) = n % 256 ^ k := by
  induction k with
  | zero => rw [be_zero, beNum_nil]; simp; omega
  | succ k ih =>
    have h : (UInt8.ofNat (n / 256 ^ k % 256)).toNat = n / 256 ^ k % 256 := by
      rw [UInt8.toNat_ofNat']
      omega
    rw [be_succ, beNum_cons, be_length, ih, h, Nat.pow_succ, Nat.mod_mul, Nat.mul_comm, Nat.add_comm]
theorem gErr_back (l : List UInt8) (k : Nat) (h1 : 1 ≤ k) (h2 : k ≤ 8) (n : Nat) : gErr (wPut l k n).length l.length k = 0 := by
  rw [wPut_ok (wOk_true (by omega) (by omega))]
  refine gErr_ok (by omega) ?_
  rw [List.length_append, be_length]
  simp
theorem gNum_back (l : List UInt8) (k : Nat) (h1 : 1 ≤ k) (h2 : k ≤ 8) (n : Nat) : gNum (wPut l k n) l.length k = n % 256 ^ k := by
  rw [gNum_ok (gErr_back l k h1 h2 n), wPut_ok (wOk_true (by omega) (by omega)), Int.toNat_natCast, Int.toNat_natCast, List.drop_left, List.take_of_length_le (by rw [be_length]; exact Nat.le_refl _), beNum_be]

end Go.Proofs.Ytebcginnnjigjaa

end
section
/- The contracts of word's references: the same bytes, the same numbers. -/
open Go.RowKit
namespace Go.Proofs.Ytebcginnnjigjaa

set_option maxRecDepth 100000 in
theorem refPut_any (A : Option Addr) (l : List UInt8) (c : Nat) (x : Int) (n : Nat) (hn : n < 18446744073709551616) (w : World) (hr : Reads w 1 A l.length (bv l)) (hl : l.length + 8 ≤ 140737488355328) :
    Calls Try.prog 70 #[.slice A l.length c, .int .i64 x, .int .u64 n] w fun e w' => ∃ A' c', e = .returned (.slice A' (wPut l x n).length c') ∧ OwnB w' w.heap.size A' c' (wPut l x n) ∧ Below w.heap.size w w' := by
  have Hn := Lib.hid hn
  have Hr := Lib.hid hr
  clear hn hr
  go_enter Try.func70, Try.ntmps70
  go_wp2_with (at_builtin; refine wpList_append_bytes w w.heap.size rfl (.tmp 9) (.tmp 10) rfl none 0 [] rfl (OwnB.nil _ _) A c l rfl Hr.out (by simp; omega) (Below.refl _ _) (Nat.le_refl _) ?_)
  intro A2 c2 L w2 hL hown2 hb2 hB2
  obtain rfl : L = l := by simpa using hL.out
  have Ho2 := Lib.hid hown2
  have Hb2 := Lib.hid hb2
  clear hown2 hb2 hL Hr
  by_cases hw : wOk x = true
  · have hx : 1 ≤ x ∧ x ≤ 8 := by unfold wOk at hw; simpa using hw
    obtain ⟨k, rfl⟩ := Int.eq_ofNat_of_zero_le (show 0 ≤ x by omega)
    have Hp := Lib.hid (wPut_ok (b := L) (n := n) hw)
    have Hbl := Lib.hid (be_length k n)
    have hk1 : 1 ≤ k := by omega
    have hk8 : k ≤ 8 := by omega
    clear hx
    go_wp2
    go_loopw [7, 8] (fun v i wr => ∃ (j : Nat) (s : Int) (A3 : Option Addr) (c3 : Nat) (M : List UInt8), j ≤ k ∧ s = (k : Int) - (j : Int) - 1 ∧ i = .int .i64 s ∧ Hid (M = L ++ (be k n).take j) ∧ v = .slice A3 M.length c3 ∧ Hid (OwnB wr w.heap.size A3 c3 M) ∧ Hid (Below w.heap.size w wr) ∧ w.heap.size ≤ wr.heap.size) (fun _ i _ => (intOf i + 1).toNat)
    case atStart => exact ⟨0, _, A2, c2, L, by omega, rfl, by go_num, by show _ = _; simp, rfl, Ho2, Hb2, hB2⟩
    case round =>
      obtain ⟨j, s, A3, c3, M, hj, hs, rfl, hM, rfl, Ho3, Hb3, hB3⟩ := hrel
      clear Ho2 Hb2 hB2
      have hMl : M.length = L.length + j := by rw [hM.out, List.length_append, List.length_take, Hbl.out]; omega
      by_cases hjk : j < k
      · have Hsh := Lib.hid (shr_byte n k j)
        have Hts := Lib.hid (be_take_succ k n j hjk)
        generalize UInt8.ofNat (n / 256 ^ (k - 1 - j) % 256) = b at Hsh Hts
        obtain ⟨q, rfl⟩ := Int.eq_ofNat_of_zero_le (show 0 ≤ s by omega)
        have hq : 8 * q = 8 * (k - 1 - j) := by omega
        rw [← hq] at Hsh
        have hq56 : q ≤ 7 := by omega
        have hM8 : M.length + 1 ≤ 140737488355328 := by omega
        have Hs := Lib.hid hs
        have hrb : Reads (wr.alloc (.cells #[.int .u8 (b.toNat : Int)] 5)) 1 (some ⟨wr.heap.size, 0, none⟩) [b].length (bv [b]) := Reads.of_block (n := 1) (heap_alloc_new _ _) rfl
        have Hrb := Lib.hid hrb
        clear hq hs hMl hrb
        go_wp2_with (at_builtin; go_loud (rw [← Hsh.out]; refine wpList_append_bytes w w.heap.size rfl (.tmp 25) (.tmp 32) rfl A3 c3 M rfl (Ho3.out.alloc _) (some ⟨wr.heap.size, 0, none⟩) 1 [b] rfl Hrb.out (by simp; omega) (Hb3.out.alloc hB3 _) (by simp; omega) ?_))
        intro A4 c4 M' w4 hM' hown4 hb4 hB4
        have Ho4 := Lib.hid hown4
        have Hb4 := Lib.hid hb4
        clear hown4 hb4 Hrb Ho3 Hb3 hB3
        go_wp2
        go_roundw
        case rel => exact ⟨j + 1, (q : Int) - 1, A4, c4, M', by omega, by have := Hs.out; omega, by go_num, by show _ = _; rw [hM'.out, hM.out, Hts.out, List.append_assoc], rfl, Ho4, Hb4, hB4⟩
        case measure => simp [intOf] <;> omega
      · obtain rfl : j = k := by omega
        have hM2 : M = wPut L (j : Int) n := by rw [hM.out, Hp.out, List.take_of_length_le (by rw [Hbl.out]; exact Nat.le_refl _), Int.toNat_natCast]
        have HM2 := Lib.hid hM2
        clear hM2 hM hMl
        go_wp2
        go_ret
        rw [← HM2.out]
        exact ⟨A3, c3, rfl, Ho3.out, Hb3.out⟩
  · have hw' : wOk x = false := by simpa using hw
    have Hp := Lib.hid (wPut_bad (b := L) (n := n) hw')
    have hx : x < 1 ∨ 8 < x := by unfold wOk at hw'; simp at hw'; omega
    clear hw hw'
    rcases hx with hx | hx
    · go_wp2
      go_ret
      rw [Hp.out]
      exact ⟨A2, c2, rfl, Ho2.out, Hb2.out⟩
    · go_wp2
      go_ret
      rw [Hp.out]
      exact ⟨A2, c2, rfl, Ho2.out, Hb2.out⟩

theorem refGet_bad (A : Option Addr) (n c : Nat) (k x : Int) (h : x < 1 ∨ 8 < x ∨ k < 0) (w : World) :
    Calls Try.prog 69 #[.slice A n c, .int .i64 k, .int .i64 x] w fun e w' => e = .returned (.tuple #[.int .u64 0, .int .i64 2]) ∧ w = w' := by
  by_cases h1 : x < 1
  · clear h
    go_enter Try.func69, Try.ntmps69
    go_wp2
    go_ret2
    exact ⟨rfl, rfl⟩
  by_cases h2 : 8 < x
  · clear h
    go_enter Try.func69, Try.ntmps69
    go_wp2
    go_ret2
    exact ⟨rfl, rfl⟩
  have h3 : k < 0 := by omega
  clear h
  go_enter Try.func69, Try.ntmps69
  go_wp2
  go_ret2
  exact ⟨rfl, rfl⟩

theorem refGet_short (A : Option Addr) (n c : Nat) (k x : Int) (h1 : 1 ≤ x) (h2 : x ≤ 8) (h3 : 0 ≤ k) (h4 : (n : Int) < k + x) (w : World) :
    Calls Try.prog 69 #[.slice A n c, .int .i64 k, .int .i64 x] w fun e w' => e = .returned (.tuple #[.int .u64 0, .int .i64 7]) ∧ w = w' := by
  by_cases hk : (n : Int) < k
  · go_enter Try.func69, Try.ntmps69
    go_wp2
    go_ret2
    exact ⟨rfl, rfl⟩
  · go_enter Try.func69, Try.ntmps69
    go_wp2
    go_ret2
    exact ⟨rfl, rfl⟩

set_option maxRecDepth 100000 in
theorem refGet_ok (A : Option Addr) (l : List UInt8) (c : Nat) (k x : Nat) (h1 : 1 ≤ x) (h2 : x ≤ 8) (h4 : k + x ≤ l.length) (w : World) (hr : Reads w 1 A l.length (bv l)) (hm : l.length ≤ maxLen) :
    Calls Try.prog 69 #[.slice A l.length c, .int .i64 k, .int .i64 x] w fun e w' => e = .returned (.tuple #[.int .u64 (beNum ((l.drop k).take x) : Nat), .int .i64 0]) ∧ w = w' := by
  unfold maxLen at hm
  have hq : ((l.drop k).take x).length = x := by simp; omega
  have hget : ∀ j (hj : j < x), ((l.drop k).take x)[j]? = some (l[k + j]'(Nat.lt_of_lt_of_le (Nat.add_lt_add_left hj k) h4)) := by
    intro j hj
    rw [List.getElem?_take_of_lt hj, List.getElem?_drop, List.getElem?_eq_getElem]
  generalize hQ : (l.drop k).take x = q at hq hget
  have Hr := Lib.hid hr
  have Hq := Lib.hid hq
  have Hget := Lib.hid hget
  clear hr hq hQ hget
  go_enter Try.func69, Try.ntmps69
  go_wp2
  go_loop [8, 9] (fun y i => ∃ j m : Nat, j ≤ x ∧ i = .int .i64 j ∧ y = .int .u64 m ∧ Hid (m = beNum (q.take j))) (fun _ i => (x - (intOf i).toNat))
  case atStart => exact ⟨0, 0, by omega, rfl, rfl, by rw [List.take_zero, beNum_nil]; rfl⟩
  case round =>
    obtain ⟨j, m, hj, rfl, rfl, H⟩ := hrel
    by_cases hlt : j < x
    · have hjq : j < q.length := by rw [Hq.out]; exact hlt
      have hjl : k + j < l.length := by omega
      obtain ⟨ad, rfl, hv⟩ := Hr.out.byte hjl
      have hqe : q[j] = l[k + j] := by
        have := Hget.out j hlt
        rw [List.getElem?_eq_getElem hjq] at this
        injection this
      have hsm := beNum_small q j (by omega)
      rw [← H.out] at hsm
      have hs := beNum_take_succ q j hjq
      rw [← H.out, hqe] at hs
      have hlc : (l[k + j].toNat : Int) < 256 := by have := l[k + j].toNat_lt; omega
      clear hqe
      generalize l[k + j] = b at hv hlc hs
      have Hs := Lib.hid hs
      have hwr : IntKind.u64.wrap ((m : Int) * 256) = (m : Int) * 256 := by rw [IntKind.wrap_u64]; omega
      have hwr2 : IntKind.u64.wrap ((m : Int) * 256 + (b.toNat : Int)) = (m : Int) * 256 + (b.toNat : Int) := by rw [IntKind.wrap_u64]; omega
      clear hs hsm hjq
      go_wp2
      go_round
      case rel => exact ⟨j + 1, m * 256 + b.toNat, by omega, by go_num, by go_num, Hs.out.symm⟩
      case measure => simp [intOf]; omega
    · obtain rfl : j = x := by omega
      rw [List.take_of_length_le (by rw [Hq.out]; exact Nat.le_refl _)] at H
      go_wp2
      go_ret2
      exact ⟨by rw [← H.out]; rfl, rfl⟩

theorem refGet_any (A : Option Addr) (l : List UInt8) (c : Nat) (k x : Int) (w : World) (hr : Reads w 1 A l.length (bv l)) (hm : l.length ≤ maxLen) :
    Calls Try.prog 69 #[.slice A l.length c, .int .i64 k, .int .i64 x] w fun e w' => e = .returned (.tuple #[.int .u64 (gNum l k x : Nat), .int .i64 (gErr l.length k x : Nat)]) ∧ w = w' := by
  by_cases hb : x < 1 ∨ 8 < x ∨ k < 0
  · have he := gErr_bad (len := l.length) hb
    rw [gNum_bad (by rw [he]; decide), he]
    exact refGet_bad A _ c k x hb w
  · by_cases hs : (l.length : Int) < k + x
    · have he := gErr_short hb hs
      rw [gNum_bad (by rw [he]; decide), he]
      exact refGet_short A _ c k x (by omega) (by omega) (by omega) hs w
    · have he := gErr_ok hb hs
      rw [gNum_ok he, he]
      obtain ⟨k, rfl⟩ := Int.eq_ofNat_of_zero_le (show 0 ≤ k by omega)
      obtain ⟨x, rfl⟩ := Int.eq_ofNat_of_zero_le (show 0 ≤ x by omega)
      exact refGet_ok A l c k x (by omega) (by omega) (by omega) w hr hm

end Go.Proofs.Ytebcginnnjigjaa

end
