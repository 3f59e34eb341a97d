/- Bytes of the call's own; bytes as a string and back. -/
import Derived.Test.YtjlecfckcciagaaMemG
open Go.RowKit
namespace Go.Proofs.Ytjlecfckcciagaa

/-! ### bytes -/
theorem info_u8 : (Try.prog.info? 5).map (fun i => (i.zero, i.size, i.bytes)) = some (some (.int .u8 0), 1, 1) := by kernel_rfl

/-- A row of bytes of the call's own. -/
def OwnB (w : World) (base : Nat) (A : Option Addr) (c : Nat) (l : List UInt8) : Prop := w.ownsRow base 5 1 (.slice A l.length c) l.length (bv l)
theorem OwnB.reads {w : World} {base : Nat} {A : Option Addr} {c : Nat} {l : List UInt8} (h : OwnB w base A c l) : Reads w 1 A l.length (bv l) := Reads.of_own h
theorem OwnB.nil (w : World) (base : Nat) : OwnB w base none 0 [] := own_nil w base _ 1
theorem OwnB.below {w w1 : World} {base : Nat} {A : Option Addr} {c : Nat} {l : List UInt8} (h : OwnB w base A c l) (hb : Below w.heap.size w w1) : OwnB w1 base A c l := own_below h hb
theorem OwnB.alloc {w : World} {base : Nat} {A : Option Addr} {c : Nat} {l : List UInt8} (h : OwnB w base A c l) (o : Obj) : OwnB (w.alloc o) base A c l := World.ownsRow.alloc h o
theorem OwnB.cap {w : World} {base : Nat} {A : Option Addr} {c : Nat} {l : List UInt8} (h : OwnB w base A c l) : l.length ≤ c := by
  obtain ⟨A', c', he, hc⟩ := own_slice h
  injection he with _ _ h3
  subst h3; exact hc
theorem OwnB.max {w : World} {base : Nat} {A : Option Addr} {c : Nat} {l : List UInt8} (h : OwnB w base A c l) : l.length ≤ maxLen := by
  rcases h.2 with ⟨_, h0⟩ | ⟨g', cap', cur, he, _, _, h1, h2, _⟩
  · rw [h0]; exact Nat.zero_le _
  · exact Nat.le_trans h1 h2

theorem OwnB.form {w : World} {base : Nat} {A : Option Addr} {c : Nat} {l : List UInt8} (h : OwnB w base A c l) (h0 : 0 < l.length) : ∃ g, A = some ⟨g, 0, none⟩ ∧ base ≤ g ∧ g < w.heap.size := by
  obtain ⟨g, cap, hv, hb, hlt⟩ := World.ownsRow.form h h0
  injection hv with hA
  exact ⟨g, hA, hb, hlt⟩
theorem OwnB.cell {w : World} {base g c : Nat} {l : List UInt8} (h : OwnB w base (some ⟨g, 0, none⟩) c l) {k : Nat} (hk : k < l.length) : w.cell? ⟨g, k, none⟩ = some (.int .u8 (l[k].toNat : Int)) := by
  rw [World.ownsRow.cellAt h k (by omega)]
  simp [bv, hk]
theorem OwnB.frozen {w : World} {base g c : Nat} {l : List UInt8} (h : OwnB w base (some ⟨g, 0, none⟩) c l) (k : Nat) : w.frozen? ⟨g, k, none⟩ = false := World.ownsRow.frozenAt h k
theorem OwnB.set {w : World} {base g c : Nat} {l : List UInt8} (h : OwnB w base (some ⟨g, 0, none⟩) c l) (k : Nat) (b : UInt8) : OwnB (w.setCell ⟨g, k, none⟩ (.int .u8 (b.toNat : Int))) base (some ⟨g, 0, none⟩) c (l.set k b) := by
  have h1 := (World.ownsRow.stored h k (.int .u8 (b.toNat : Int))).1
  have e : (bv l).set k (.int .u8 (b.toNat : Int)) = bv (l.set k b) := by simp [bv, List.map_set]
  rw [e] at h1
  unfold OwnB
  rw [List.length_set]
  exact h1

theorem wpList_append_bytes {w : World} {ops : Array Oper} {rest : List Oper} {o : Oper} {a : Act} {Q : Exit → Act → World → Prop} (w0 : World) (base : Nat) (hgd : o.guard = none) (s x : Operand)
    (ho : o.op = .call { callee := .builtin .append, args := #[s, x], argTypes := #[49, 49] })
    (A : Option Addr) (c : Nat) (l : List UInt8) (hs : a.eval s = .slice A l.length c) (hown : OwnB w base A c l)
    (A' : Option Addr) (c' : Nat) (l' : List UInt8) (hx : a.eval x = .slice A' l'.length c') (hr : Reads w 1 A' l'.length (bv l'))
    (hlen : l.length + l'.length ≤ 140737488355328) (hbel : Below base w0 w) (hbase : base ≤ w.heap.size)
    (h : ∀ A1 c1 L w1, Hid (L = l ++ l') → OwnB w1 base A1 c1 L → Below base w0 w1 → base ≤ w1.heap.size → wpList Try.prog ops Q rest (a.put o.dst (.slice A1 L.length c1)) w1) : wpList Try.prog ops Q (o :: rest) a w := by
  obtain ⟨i0, hi, hz0, hz1, hz2⟩ := info_parts info_u8
  refine wpList_append_any w hgd s x 49 ho base 5 i0 _ 1 1 Try.underlying49 hi hz0 hz1 hz2 rfl (by omega) _ _ _ hs hown A' _ c' _ hx hr (oneCell_bv _) (by unfold maxLen; omega) (by omega) hbase ?_
  intro v' w' h1 h2 h3
  obtain ⟨A1, c1, rfl, _⟩ := own_slice h1
  have hl : l.length + l'.length = (l ++ l').length := by simp
  rw [hl] at h1 ⊢
  rw [← bv_append] at h1
  exact h A1 c1 (l ++ l') w' rfl h1 (hbel.grown h2 hbase (own_base hown)) (Nat.le_trans hbase h2.size)


/-- The same as one step of a region that draws its order. -/
theorem step_append_bytes {w : World} {ops : Array Oper} {o : Oper} {a : Act} {K : Act → World → Prop} {Q : Exit → Act → World → Prop} {E : Prop} (w0 : World) (base : Nat) (hgd : o.guard = none) (s x : Operand)
    (ho : o.op = .call { callee := .builtin .append, args := #[s, x], argTypes := #[49, 49] })
    (A : Option Addr) (c : Nat) (l : List UInt8) (hs : a.eval s = .slice A l.length c) (hown : OwnB w base A c l)
    (A' : Option Addr) (c' : Nat) (l' : List UInt8) (hx : a.eval x = .slice A' l'.length c') (hr : Reads w 1 A' l'.length (bv l'))
    (hlen : l.length + l'.length ≤ 140737488355328) (hbel : Below base w0 w) (hbase : base ≤ w.heap.size)
    (h : ∀ A1 c1 L w1, Hid (L = l ++ l') → OwnB w1 base A1 c1 L → Below base w0 w1 → base ≤ w1.heap.size → K (a.put o.dst (.slice A1 L.length c1)) w1) :
    if Region.wanted o (yielded ops a.tmps) = true then Oper.wp Try.prog o a w K Q else E := by
  have hw : Region.wanted o (yielded ops a.tmps) = true := by simp [Region.wanted, hgd]
  rw [if_pos hw]
  obtain ⟨i0, hi, hz0, hz1, hz2⟩ := info_parts info_u8
  refine wp_append_any w s x 49 ho base 5 i0 _ 1 1 Try.underlying49 hi hz0 hz1 hz2 rfl (by omega) _ _ _ hs hown A' _ c' _ hx hr (oneCell_bv _) (by unfold maxLen; omega) (by omega) hbase ?_
  intro v' w' h1 h2 h3
  obtain ⟨A1, c1, rfl, _⟩ := own_slice h1
  have hl : l.length + l'.length = (l ++ l').length := by simp
  rw [hl] at h1 ⊢
  rw [← bv_append] at h1
  exact h A1 c1 (l ++ l') w' rfl h1 (hbel.grown h2 hbase (own_base hown)) (Nat.le_trans hbase h2.size)

/-- 'make([]byte, 0, n)' -/
theorem wpList_make_bytes {w : World} {ops : Array Oper} {rest : List Oper} {o : Oper} {a : Act} {Q : Exit → Act → World → Prop} (w0 : World) (base : Nat) (hgd : o.guard = none) (x y : Operand)
    (ho : o.op = Op.makeSlice 49 x y) (kl kc : IntKind) (C : Int) (n : Nat) (hx : a.eval x = .int kl 0) (hy : a.eval y = .int kc C) (hC : C = (n : Int)) (hn : n ≤ 281474976710656)
    (hbel : Below base w0 w) (hbase : base ≤ w.heap.size)
    (h : ∀ A1 w1, OwnB w1 base A1 n [] → Below base w0 w1 → base ≤ w1.heap.size → wpList Try.prog ops Q rest (a.put o.dst (.slice A1 0 n)) w1) : wpList Try.prog ops Q (o :: rest) a w := by
  obtain ⟨i0, hi, hz0, hz1, hz2⟩ := info_parts info_u8
  refine wpList_make_own w hgd x y 49 ho base 5 i0 _ 1 Try.underlying49 hi hz0 hz1 kl kc C n hx hy hC (by rw [hz2]; omega) (by unfold maxLen; omega) hbase ?_
  intro w1 h1 h2
  exact h _ w1 h1 (hbel.grown h2 hbase (by simp)) (Nat.le_trans hbase h2.size)

/-- Bytes as a string. -/
theorem run_string_of_bytes {w : World} {A : Option Addr} {l : List UInt8} (c : Nat) (hr : Reads w 1 A l.length (bv l)) : (convert 49 9 (.slice A l.length c)).run Try.prog w = .ok (.string ⟨l.toArray⟩) w := by
  rw [run_convert_bytes_string w 49 9 5 A l.length c Try.underlying49 Try.underlying5 Try.underlying9]
  rcases A with _ | ad
  · have h0 : l = [] := by
      rcases Nat.eq_zero_or_pos l.length with h0 | h0
      · exact List.eq_nil_of_length_eq_zero h0
      · obtain ⟨ad, h, _⟩ := hr.2 h0
        cases h
    subst h0
    rfl
  · have hl : (loadCells ad l.length).run Try.prog w = .ok ((l.map fun b => (b.toNat : Int)).map (Value.int .u8)).toArray w := by
      have := run_loadCells_list (P := Try.prog) w ad (bv l) (fun j v hj => by
        have h0 : 0 < l.length := by
          have := (List.getElem?_eq_some_iff.1 hj).1
          rw [bv_length] at this; omega
        obtain ⟨ad', h, hc⟩ := hr.2 h0
        injection h with h
        subst h
        exact hc j v hj)
      rw [bv_length] at this
      rw [this]
      simp [bv, Function.comp_def]
    rw [run_bytesToString w ad l.length c _ hl, foldl_push_bytes]
    congr 2
    apply ByteArray.ext
    apply Array.toList_inj.1
    simp [ByteArray.empty, ByteArray.emptyWithCapacity, Function.comp_def]
    rfl

theorem Reads.far {w : World} {A : Option Addr} {l : List UInt8} {g : Nat} {cs : Array Value} {t : TypeId} {fr : Nat × Nat} (h : Reads w 1 A l.length (bv l)) (hg : w.heap[g]? = some (.cells cs t fr))
    (hcs : ∀ b : UInt8, (.int .u8 (b.toNat : Int)) ∉ cs) (i : Nat) (v : Value) : Reads (w.setCell ⟨g, i, none⟩ v) 1 A l.length (bv l) := by
  refine ⟨h.1, fun hn => ?_⟩
  obtain ⟨ad, e, hc⟩ := h.2 hn
  refine ⟨ad, e, fun j u hu => ?_⟩
  have h1 := hc j u hu
  rw [World.cell?_setCell_other _ _ _ _ ?_]
  · exact h1
  · intro he
    rw [← he, cell_of_row _ _ _ _ _ _ hg] at h1
    have hu' : u ∈ bv l := List.mem_of_getElem? hu
    simp only [bv, List.mem_map] at hu'
    obtain ⟨b, _, rfl⟩ := hu'
    exact hcs b (Array.mem_of_getElem? h1)

end Go.Proofs.Ytjlecfckcciagaa
