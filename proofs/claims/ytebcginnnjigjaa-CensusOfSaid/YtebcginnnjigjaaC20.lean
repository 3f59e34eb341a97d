import Derived.Test.YtebcginnnjigjaaC16
import Derived.Test.YtebcginnnjigjaaC15
import Derived.Lib.SlBytesConst
section
/- Nets: what must come of fixed calls. -/
open Go.RowKit
namespace Go.Proofs.Ytebcginnnjigjaa

/-- Behind a method: the net stands where it stood, all that was below B is as it was. -/
theorem NetPost.next {B : Nat} {w0 w w' : World} {g : Nat} {A : Option Addr} {σ : Nt} (hp : NetPost w g A σ w') (hb : Below B w0 w) (hB : B ≤ w0.heap.size) (hg : B ≤ g) (hA : ∀ k, blk A = some k → B ≤ k) :
    ∃ A' c', NetP w' g A' c' σ ∧ Below B w0 w' ∧ (∀ k, blk A' = some k → B ≤ k) := by
  obtain ⟨A', c', h1, h2, h3⟩ := hp
  refine ⟨A', c', h1, hb.trans (h3.below (fun i hi hf => ?_) (Nat.le_trans hB hb.size)), fun k hk => ?_⟩
  · rcases hf with rfl | hf
    · omega
    · have := hA i hf; omega
  · rcases h2 k hk with h | h
    · exact hA k h
    · have := hb.size; omega

def ab : ByteArray := ⟨[97, 98].toArray⟩
def ab1 : ByteArray := ⟨[97].toArray⟩
def net1 : Nt := ⟨1, 0, 0, [(1, ab)]⟩
def net2 : Nt := ⟨2, 0, 0, [(1, ab), (1, ab)]⟩
def net3 : Nt := ⟨2, 1, 0, [(1, ab)]⟩
def net4 : Nt := ⟨2, 1, 0, [(1, ab1)]⟩
theorem net1_is : sendE Nt.none 1 = 0 ∧ sendN Nt.none 1 ⟨[97, 98].toArray⟩ = net1 := ⟨rfl, rfl⟩
theorem net2_is : twiceE net1 0 = 0 ∧ twiceN net1 0 = net2 := ⟨by decide, rfl⟩
theorem net3_is : hasE net2 0 = 0 ∧ pAt net2 0 = (1, ab) ∧ takeN net2 0 = net3 := ⟨by decide, rfl, rfl⟩
theorem net4_is : cutE net3 0 1 = 0 ∧ cutN net3 0 1 = net4 := ⟨by decide, rfl⟩
theorem net5_is : hasE net4 0 = 0 ∧ pAt net4 0 = (1, ab1) := ⟨by decide, rfl⟩
theorem nets_ok : Nt.none.ok ∧ net1.ok ∧ net2.ok ∧ net3.ok ∧ net4.ok := by
  refine ⟨?_, ?_, ?_, ?_, ?_⟩ <;> (unfold Nt.ok; decide)

end Go.Proofs.Ytebcginnnjigjaa

end
section
/- Packets: a copy of a row; a copy of a net. -/
open Go.RowKit
namespace Go.Proofs.Ytebcginnnjigjaa

theorem PRow.none_nil {w : World} {c : Nat} {ps : List (Int × ByteArray)} (h : PRow w none c ps) : ps = [] ∧ c = 0 := by
  rcases h.2 with ⟨h2, h3⟩ | ⟨g, cap, cur, hv, _⟩
  · exact ⟨List.eq_nil_of_length_eq_zero h3, by injection h2⟩
  · cases hv
theorem PRow.fresh (w : World) : PRow (w.alloc (.cells #[] 51)) (some ⟨w.heap.size, 0, none⟩) 0 [] :=
  ⟨rfl, .inr ⟨w.heap.size, 0, #[], rfl, Nat.zero_le _, heap_alloc_new _ _, Nat.le_refl _, Nat.zero_le _, rfl, rfl⟩⟩

theorem keeps_alloc (w : World) (o : Obj) : KeepsBut [] w (w.alloc o) :=
  ⟨by show w.heap.size ≤ (w.heap.push _).size; rw [Array.size_push]; omega, fun i hi _ => heap_alloc_old w o hi⟩

end Go.Proofs.Ytebcginnnjigjaa

end
section
/- The document's nets: what they hold, and the small methods. -/
open Go.RowKit
namespace Go.Proofs.Ytebcginnnjigjaa

/-- Block g is a net of the document's. -/
def NetR (w : World) (g : Nat) (A : Option Addr) (c : Nat) (σ : Nt) : Prop :=
  w.heap[g]? = some (.cells #[.slice A σ.ps.length c, .int .i64 σ.s, .int .i64 σ.c, .int .i64 σ.l] 49 (0, 0)) ∧ PRow w A c σ.ps ∧ blk A ≠ some g
/-- What a method leaves. -/
def NetRPost (w : World) (g : Nat) (A : Option Addr) (σ : Nt) (w' : World) : Prop :=
  ∃ A' c', NetR w' g A' c' σ ∧ (∀ k, blk A' = some k → blk A = some k ∨ w.heap.size ≤ k) ∧ Chg (Foot g A) w w'
section
variable {w w1 : World} {g : Nat} {A : Option Addr} {c : Nat} {σ : Nt}
theorem NetR.same (hc : Chg (Foot g A) w w1) (h1 : NetR w1 g A c σ) : NetRPost w g A σ w1 := ⟨A, c, h1, fun _ hk => .inl hk, hc⟩
theorem NetR.lt (h : NetR w g A c σ) : g < w.heap.size := (Array.getElem?_eq_some_iff.1 h.1).1
theorem NetR.foot (h : NetR w g A c σ) : ∀ i, Foot g A i → i < w.heap.size := fun i hi => by
  rcases hi with rfl | hi
  · exact h.lt
  · exact h.2.1.lt hi
theorem NetR.chg {F : Nat → Prop} (h : NetR w g A c σ) (hc : Chg F w w1) (hF : ∀ i, Foot g A i → ¬ F i) : NetR w1 g A c σ :=
  ⟨(hc.block g h.lt (hF g (.inl rfl))).trans h.1, h.2.1.chg hc (fun k hk => hF k (.inr hk)), h.2.2⟩
theorem NetR.cells (h : NetR w g A c σ) :
    (w.cell? ⟨g, 0, none⟩ = some (.slice A σ.ps.length c) ∧ w.cell? ⟨g, 1, none⟩ = some (.int .i64 σ.s) ∧ w.cell? ⟨g, 2, none⟩ = some (.int .i64 σ.c) ∧ w.cell? ⟨g, 3, none⟩ = some (.int .i64 σ.l)) ∧
      w.frozen? ⟨g, 0, none⟩ = false ∧ w.frozen? ⟨g, 1, none⟩ = false ∧ w.frozen? ⟨g, 2, none⟩ = false ∧ w.frozen? ⟨g, 3, none⟩ = false := cells4 h.1
theorem NetR.setS (h : NetR w g A c σ) (x : Int) : NetR (w.setCell ⟨g, 1, none⟩ (.int .i64 x)) g A c ⟨x, σ.c, σ.l, σ.ps⟩ :=
  ⟨heap_setCell_same w g 1 _ _ _ h.1, h.2.1.chg (F := fun i => i = g) ((Chg.refl _ _).set g 1 _ (fun _ => rfl)) (fun _ hk e => h.2.2 (e ▸ hk)), h.2.2⟩
theorem NetR.setC (h : NetR w g A c σ) (x : Int) : NetR (w.setCell ⟨g, 2, none⟩ (.int .i64 x)) g A c ⟨σ.s, x, σ.l, σ.ps⟩ :=
  ⟨heap_setCell_same w g 2 _ _ _ h.1, h.2.1.chg (F := fun i => i = g) ((Chg.refl _ _).set g 2 _ (fun _ => rfl)) (fun _ hk e => h.2.2 (e ▸ hk)), h.2.2⟩
theorem NetR.setL (h : NetR w g A c σ) (x : Int) : NetR (w.setCell ⟨g, 3, none⟩ (.int .i64 x)) g A c ⟨σ.s, σ.c, x, σ.ps⟩ :=
  ⟨heap_setCell_same w g 3 _ _ _ h.1, h.2.1.chg (F := fun i => i = g) ((Chg.refl _ _).set g 3 _ (fun _ => rfl)) (fun _ hk e => h.2.2 (e ▸ hk)), h.2.2⟩
theorem netR_setR {w : World} {g : Nat} {a b l : Int} {v : Value} {A : Option Addr} {c : Nat} {ps : List (Int × ByteArray)} (h : w.heap[g]? = some (.cells #[v, .int .i64 a, .int .i64 b, .int .i64 l] 49 (0, 0))) (hr : PRow w A c ps) (hne : blk A ≠ some g) :
    NetR (w.setCell ⟨g, 0, none⟩ (.slice A ps.length c)) g A c ⟨a, b, l, ps⟩ :=
  ⟨heap_setCell_same w g 0 _ _ _ h, hr.chg (F := fun i => i = g) ((Chg.refl _ _).set g 0 _ (fun _ => rfl)) (fun _ hk e => hne (e ▸ hk)), hne⟩
theorem NetR.row (h : NetR w g A c σ) {k : Nat} (hk : k < σ.ps.length) : ∃ b, A = some ⟨b, 0, none⟩ ∧ b < w.heap.size ∧ b ≠ g := by
  obtain ⟨b, rfl, hb⟩ := h.2.1.form (by omega)
  exact ⟨b, rfl, hb, fun e => h.2.2 (by rw [← e]; rfl)⟩
end
/-- A row that has grown is written into the net. -/
theorem netRGrow {w w1 w2 : World} {g : Nat} {A A1 : Option Addr} {c c1 : Nat} {σ : Nt} {a b l : Int} {ps : List (Int × ByteArray)} (h : NetR w g A c σ) (hw : Chg (Foot g A) w w1)
    (hg1 : w1.heap[g]? = some (.cells #[.slice A σ.ps.length c, .int .i64 a, .int .i64 b, .int .i64 l] 49 (0, 0)))
    (hr : PRow w2 A1 c1 ps) (hc : Chg (fun i => blk A = some i) w1 w2) (hk : ∀ k, blk A1 = some k → blk A = some k ∨ w.heap.size ≤ k) (hn : blk A1 ≠ some g) :
    NetRPost w g A ⟨a, b, l, ps⟩ (w2.setCell ⟨g, 0, none⟩ (.slice A1 ps.length c1)) := by
  have hlt : g < w1.heap.size := Nat.lt_of_lt_of_le h.lt hw.size
  have g2 := (hc.block g hlt (fun e => h.2.2 e)).trans hg1
  refine ⟨A1, c1, netR_setR g2 hr hn, hk, ?_⟩
  exact (hw.trans hc (fun i _ hi => .inr hi)).set g 0 _ (fun _ => .inl rfl)

theorem refIn_any (w : World) (g : Nat) (A : Option Addr) (c : Nat) (σ : Nt) (h : NetR w g A c σ) (i : Int) : Calls Try.prog 52 #[.pointer (some ⟨g, 0, none⟩), .int .i64 i] w fun e w' => e = .returned (.bool (decide (inN σ i))) ∧ w = w' := by
  obtain ⟨⟨c0, c1, c2, c3⟩, _⟩ := h.cells
  clear h
  by_cases h0 : i < 0
  · have H := Lib.hid (show decide (inN σ i) = false from decide_eq_false (by unfold inN; omega))
    go_enter Try.func52, Try.ntmps52
    go_wp2
    go_ret
    exact ⟨by rw [H.out]; rfl, rfl⟩
  · by_cases h1 : (σ.ps.length : Int) ≤ i
    · have H := Lib.hid (show decide (inN σ i) = false from decide_eq_false (by unfold inN; omega))
      go_enter Try.func52, Try.ntmps52
      go_wp2
      go_ret
      exact ⟨by rw [H.out]; show Ending.returned (.bool (decide (i < (σ.ps.length : Int)))) = _; rw [decide_eq_false (by omega)], rfl⟩
    · have H := Lib.hid (show decide (inN σ i) = true from decide_eq_true (by unfold inN; omega))
      go_enter Try.func52, Try.ntmps52
      go_wp2
      go_ret
      exact ⟨by rw [H.out]; rfl, rfl⟩

set_option maxHeartbeats 1000000 in
set_option maxRecDepth 100000 in
theorem refSend_any (w : World) (g : Nat) (A : Option Addr) (c : Nat) (σ : Nt) (hok : σ.ok) (h : NetR w g A c σ) (to : Int) (s : ByteArray) :
    Calls Try.prog 25 #[.pointer (some ⟨g, 0, none⟩), .int .i64 to, .string s] w fun e w' => e = .returned (.int .i64 (sendE σ to : Nat)) ∧ NetRPost w g A (sendN σ to s) w' := by
  by_cases hto : to ≠ 0 ∧ to ≠ 1
  · have H := Lib.hid (show sendE σ to = 2 ∧ sendN σ to s = σ from ⟨by unfold sendE; rw [if_pos hto], by unfold sendN; rw [if_pos hto]⟩)
    have Hp := Lib.hid (NetR.same (.refl _ _) h)
    obtain ⟨t0, t1⟩ := hto
    have b0 : (to != 0) = true := by rw [bne_iff_ne]; exact t0
    have b1 : (to != 1) = true := by rw [bne_iff_ne]; exact t1
    clear h hok t0 t1
    go_enter Try.func25, Try.ntmps25
    go_wp2_with fail
    go_ret
    exact ⟨by rw [H.out.1]; rfl, by rw [H.out.2]; exact Hp.out⟩
  · have hto2 : to = 0 ∨ to = 1 := by omega
    obtain ⟨⟨c0, c1, c2', c3⟩, f0, f1, f2, f3⟩ := h.cells
    obtain ⟨⟨h1, h2⟩, _, ⟨h5, h6⟩, h7⟩ := hok
    have hS := h.setS (σ.s + 1)
    by_cases h60 : σ.ps.length = 60
    · have H := Lib.hid (show sendE σ to = 11 ∧ sendN σ to s = ⟨σ.s + 1, σ.c, σ.l + 1, σ.ps⟩ from ⟨by unfold sendE; rw [if_neg hto, if_pos h60], by unfold sendN; rw [if_neg hto, if_pos h60]⟩)
      have hp : NetRPost w g A ⟨σ.s + 1, σ.c, σ.l + 1, σ.ps⟩ ((w.setCell ⟨g, 1, none⟩ (.int .i64 (σ.s + 1))).setCell ⟨g, 3, none⟩ (.int .i64 (σ.l + 1))) :=
        ⟨A, c, hS.setL (σ.l + 1), fun _ hk => .inl hk, ((Chg.refl _ _).set g 1 _ (fun _ => .inl rfl)).set g 3 _ (fun _ => .inl rfl)⟩
      have Hp := Lib.hid hp
      have e60 : (60 : Int) ≤ (σ.ps.length : Int) := by omega
      clear hp hS h hto h60 h7
      rcases hto2 with rfl | rfl
      all_goals
        go_enter Try.func25, Try.ntmps25
        go_wp2_with fail
        go_ret
        exact ⟨by rw [H.out.1]; rfl, by rw [H.out.2]; exact Hp.out⟩
    · have H := Lib.hid (show sendE σ to = 0 ∧ sendN σ to s = ⟨σ.s + 1, σ.c, σ.l, σ.ps ++ [(to, s)]⟩ from ⟨by unfold sendE; rw [if_neg hto, if_neg h60], by unfold sendN; rw [if_neg hto, if_neg h60]⟩)
      have e60 : ¬ (60 : Int) ≤ (σ.ps.length : Int) := by omega
      have HN := Lib.hid h
      have HS := Lib.hid hS
      have Hlen := Lib.hid (show σ.ps.length + 1 ≤ 100000 by omega)
      have HC := Lib.hid ((Chg.refl (Foot g A) w).set g 1 (.int .i64 (σ.s + 1)) (fun _ => .inl rfl))
      have q0 := hS.cells.1.1
      simp only at q0
      have HP := Lib.hid (show ∀ v : Int, PRow ((w.setCell ⟨g, 1, none⟩ (.int .i64 (σ.s + 1))).alloc (.cells #[.int .i64 v, .string s] 51)) A c σ.ps ∧ Reads ((w.setCell ⟨g, 1, none⟩ (.int .i64 (σ.s + 1))).alloc (.cells #[.int .i64 v, .string s] 51)) 2 (some ⟨w.heap.size, 0, none⟩) 1 (pks [(v, s)]) ∧ Below w.heap.size (w.setCell ⟨g, 1, none⟩ (.int .i64 (σ.s + 1))) ((w.setCell ⟨g, 1, none⟩ (.int .i64 (σ.s + 1))).alloc (.cells #[.int .i64 v, .string s] 51)) from fun v => by
        have e : (w.setCell ⟨g, 1, none⟩ (.int .i64 (σ.s + 1))).heap.size = w.heap.size := size_set ..
        have hb := ((Below.refl (w.setCell ⟨g, 1, none⟩ (.int .i64 (σ.s + 1))).heap.size (w.setCell ⟨g, 1, none⟩ (.int .i64 (σ.s + 1)))).alloc (Nat.le_refl _) (.cells #[.int .i64 v, .string s] 51))
        refine ⟨hS.2.1.chg (F := fun _ => False) (.of_below hb) (fun _ _ f => f), ?_, by rw [e] at hb; exact hb⟩
        have h1 := Reads.of_block (sz := 2) (n := 1) (heap_alloc_new (w.setCell ⟨g, 1, none⟩ (.int .i64 (σ.s + 1))) (.cells #[.int .i64 v, .string s] 51)) rfl
        rw [e] at h1
        exact h1)
      have hsz : (w.setCell ⟨g, 1, none⟩ (.int .i64 (σ.s + 1))).heap.size = w.heap.size := size_set ..
      have Hsz := Lib.hid hsz
      clear h hS hto h60 h7 h5 h6 hsz
      rcases hto2 with rfl | rfl
      all_goals
        go_enter Try.func25, Try.ntmps25
        go_wp2_with (at_builtin; refine wpList_append_pk rfl (.tmp 39) (.tmp 43) rfl A c σ.ps rfl (HP.out _).1 (some ⟨w.heap.size, 0, none⟩) 1 [(_, s)] 1 rfl rfl (HP.out _).2.1 Hlen.out ?_)
        clear c0 c1 c2' c3 f0 f1 f2 f3 e60 q0
        intro A1 c1 w3 hrow hc3 hblk
        have hc3 : Chg (fun i => blk A = some i) _ w3 := ((Chg.refl (fun i => blk A = some i) _).alloc _).trans hc3 (fun _ _ h => h)
        have hlt := HN.out.lt
        have hfin := netRGrow HN.out HC.out HS.out.1 hrow hc3 (fun k hk => by
          rcases hblk k hk with h | h
          · exact .inl h
          · right; omega) (fun e => by
          rcases hblk g e with h | h
          · exact HN.out.2.2 h
          · omega)
        simp only [List.length_append, List.length_cons, List.length_nil, Nat.zero_add] at hfin
        have g3 := (hc3.block g HS.out.lt HS.out.2.2).trans HS.out.1
        obtain ⟨f3, _, _, _⟩ := (cells4 g3).2
        obtain ⟨u3, c3⟩ : ∃ u, w3.cell? ⟨g, 0, none⟩ = some u := ⟨_, (cells4 g3).1.1⟩
        have Hfin := Lib.hid hfin
        clear hrow hc3 hblk hlt hfin g3
        go_wp2_with fail
        go_ret
        exact ⟨by rw [H.out.1]; rfl, by rw [H.out.2]; exact Hfin.out⟩
end Go.Proofs.Ytebcginnnjigjaa

end
section
/- The document's nets: one is there no more. -/
open Go.RowKit
namespace Go.Proofs.Ytebcginnnjigjaa

/-- The slices that cut one packet out. -/
theorem cuts_pk (w : World) (b c : Nat) (ps : List (Int × ByteArray)) (k : Nat) (hk : k < ps.length) (h : PRow w (some ⟨b, 0, none⟩) c ps) :
    (∀ W : World, (Instr.slice 22 (.slice (some ⟨b, 0, none⟩) ps.length c) none (some (.int .i64 (k : Int))) none).run Try.prog W = .ok (.slice (some ⟨b, 0, none⟩) k c) W) ∧
    ∃ A' : Option Addr, (∀ W : World, (Instr.slice 22 (.slice (some ⟨b, 0, none⟩) ps.length c) (some (.int .i64 ((k : Int) + 1))) none none).run Try.prog W = .ok (.slice A' (ps.length - (k + 1)) (c - (k + 1))) W) ∧
      Reads w 2 (some ⟨b, 0, none⟩) k (pks (ps.take k)) ∧ Reads w 2 A' (ps.length - (k + 1)) (pks (ps.drop (k + 1))) := by
  have hcap := h.cap
  obtain ⟨i0, hi, hz0, hz1, hz2⟩ := info_parts info_pk
  have hel : Try.prog.elem 22 = 51 := by simp [Program.elem, Try.underlying22]
  have hu : Try.prog.underlying 22 = some (.slice (Try.prog.elem 22)) := by rw [hel]; exact Try.underlying22
  have s2 := cut_to (P := Try.prog) 22 51 Try.underlying22 hi 2 (some ⟨b, 0, none⟩) ps.length c k (by omega) hcap
  refine ⟨s2.1, if c = k + 1 then some ⟨b, 0, none⟩ else (some ⟨b, 0, none⟩ : Option Addr).map (·.add ((k + 1) * 2)), fun W => ?_, ?_, ?_⟩
  · have e : ((k : Int) + 1).toNat = k + 1 := by omega
    rw [run_slice_l W 22 _ _ c hu .i64 ((k : Int) + 1) (by omega) (by omega), hel, e]
    simp [sizeOf, typeInfo, hi, hz1, sliced, Result.andThen]
  · have := s2.2 w _ h.reads
    rw [pks_take] at this
    exact this
  · have := h.reads.drop_ (lo := k + 1) (by omega) hcap
    rw [pks_drop] at this
    exact this

set_option maxHeartbeats 1000000 in
set_option maxRecDepth 100000 in
theorem refOff_any (w : World) (g : Nat) (A : Option Addr) (c : Nat) (σ : Nt) (hok : σ.ok) (h : NetR w g A c σ) (k : Nat) (hk : k < σ.ps.length) :
    Calls Try.prog 53 #[.pointer (some ⟨g, 0, none⟩), .int .i64 (k : Int)] w fun e w' => e = .returned (.tuple #[]) ∧ NetRPost w g A ⟨σ.s, σ.c, σ.l, σ.ps.eraseIdx k⟩ w' := by
  obtain ⟨b, rfl, hbl, hbg⟩ := h.row hk
  obtain ⟨s2, A', s3, hr1, hr2⟩ := cuts_pk w b c σ.ps k hk h.2.1
  obtain ⟨⟨c0, _, _, _⟩, _⟩ := h.cells
  have h60 := hok.2.2.2
  have he : σ.ps.eraseIdx k = σ.ps.take k ++ σ.ps.drop (k + 1) := List.eraseIdx_eq_take_drop_succ ..
  obtain ⟨q, hq⟩ : ∃ q, q = σ.ps.take k := ⟨_, rfl⟩
  obtain ⟨r, hr⟩ : ∃ r, r = σ.ps.drop (k + 1) := ⟨_, rfl⟩
  rw [← hq, ← hr] at he
  rw [← hq] at hr1
  rw [← hr] at hr2
  have hql : q.length = k := by rw [hq, List.length_take]; omega
  have hrl : r.length = σ.ps.length - (k + 1) := by rw [hr, List.length_drop]
  have He := Lib.hid he
  have Hr1 := Lib.hid hr1
  have Hr2 := Lib.hid hr2
  have Hq := Lib.hid hql
  have Hl := Lib.hid hrl
  have HN := Lib.hid h
  have Hlt := Lib.hid h.lt
  have Hlen := Lib.hid (show q.length + r.length ≤ 100000 by omega)
  have hk100 : k ≤ 100 := by omega
  clear he hr1 hr2 hql hrl h hq hr hok h60 hbl
  go_enter Try.func53, Try.ntmps53
  go_wp2_with (at_builtin; refine wpList_append_pk rfl (.tmp 5) (.tmp 11) rfl none 0 [] rfl (PRow.nil _) (some ⟨b, 0, none⟩) c q k Hq.out rfl Hr1.out (by simp; omega) ?_)
  intro A1 c1 w1 hrow hchg hblk
  have hb1 : Below w.heap.size w w1 := hchg.below (fun i _ e => by simp [blk] at e) (Nat.le_refl _)
  have hN1 := HN.out.chg hchg (fun i _ e => by simp [blk] at e)
  obtain ⟨⟨c0, _, _, _⟩, _⟩ := hN1.cells
  have Hk1 := Lib.hid (show ∀ k, blk A1 = some k → w.heap.size ≤ k from fun k hk => by
    rcases hblk k hk with h | h
    · simp [blk] at h
    · omega)
  have Hrow := Lib.hid hrow
  have Hr3 := Lib.hid (Hr2.out.below hb1)
  have HN1 := Lib.hid hN1
  have Hb1 := Lib.hid hb1
  clear hrow hchg hblk hN1 hb1 Hr2 Hr1
  go_wp2_with (at_builtin; refine wpList_append_pk rfl (.tmp 14) (.tmp 21) rfl A1 c1 q rfl Hrow.out A' (c - (k + 1)) r (σ.ps.length - (k + 1)) Hl.out rfl Hr3.out (by have := Hl.out; have := Hlen.out; omega) ?_)
  intro A2 c2 w2 hrow hchg hblk
  have hlt := Hlt.out
  have g2 := (hchg.block g HN1.out.lt (fun e => by have := Hk1.out g e; omega)).trans HN1.out.1
  have hC : Chg (Foot g (some ⟨b, 0, none⟩)) w w2 := (Chg.of_below Hb1.out).trans hchg (fun i hi e => by have := Hk1.out i e; omega)
  have hk2 : ∀ k, blk A2 = some k → w.heap.size ≤ k := fun k hk => by
    rcases hblk k hk with h | h
    · exact Hk1.out k h
    · have := Hb1.out.size; omega
  have hR := netR_setR g2 hrow (fun e => by have := hk2 g e; omega)
  rw [List.length_append] at hR
  have Hfin := Lib.hid (show NetRPost w g (some ⟨b, 0, none⟩) ⟨σ.s, σ.c, σ.l, q ++ r⟩ _ from ⟨A2, c2, hR, fun k hk => .inr (hk2 k hk), hC.set g 0 _ (fun _ => .inl rfl)⟩)
  obtain ⟨f3, _, _, _⟩ := (cells4 g2).2
  obtain ⟨u3, c3⟩ : ∃ u, w2.cell? ⟨g, 0, none⟩ = some u := ⟨_, (cells4 g2).1.1⟩
  clear hrow hchg hblk hlt g2 hC hk2 hR s2 s3
  go_wp2_with fail
  go_end0
  exact ⟨rfl, by rw [He.out]; exact Hfin.out⟩

set_option maxHeartbeats 1000000 in
set_option maxRecDepth 100000 in
theorem refLose_any (w : World) (g : Nat) (A : Option Addr) (c : Nat) (σ : Nt) (hok : σ.ok) (h : NetR w g A c σ) (i : Int) :
    Calls Try.prog 32 #[.pointer (some ⟨g, 0, none⟩), .int .i64 i] w fun e w' => e = .returned (.int .i64 (hasE σ i : Nat)) ∧ NetRPost w g A (loseN σ i) w' := by
  have HH := Lib.hid (refIn_any w g A c σ h i)
  by_cases hin : inN σ i
  · rw [decide_eq_true hin] at HH
    have H := Lib.hid (hasE_in hin)
    obtain ⟨k, hk, rfl⟩ := inN_nat hin
    have H2 := Lib.hid (loseN_in hk)
    have HO := Lib.hid (refOff_any w g A c σ hok h k hk)
    obtain ⟨_, _, ⟨h5, h6⟩, h7⟩ := hok
    clear h hin hk h7
    go_enter Try.func32, Try.ntmps32
    go_wp2_with fail
    refine HH.out.mono ?_
    rintro e w1 ⟨rfl, rfl⟩
    go_wp2_with fail
    refine HO.out.mono ?_
    rintro e w2 ⟨rfl, A4, c4, hN4, hk4, hC4⟩
    obtain ⟨⟨_, _, _, q2⟩, _, _, _, f2⟩ := hN4.cells
    simp only at q2
    have Hp := Lib.hid (show NetRPost w g A ⟨σ.s, σ.c, σ.l + 1, σ.ps.eraseIdx k⟩ (_) from ⟨A4, c4, hN4.setL (σ.l + 1), hk4, hC4.set g 3 _ (fun _ => .inl rfl)⟩)
    clear hN4 hk4 hC4
    go_wp2_with fail
    go_ret
    exact ⟨by rw [H.out]; rfl, by rw [H2.out]; exact Hp.out⟩
  · have H := Lib.hid (hasE_out hin)
    have H2 := Lib.hid (loseN_out hin)
    have Hp := Lib.hid (NetR.same (.refl _ _) h)
    rw [decide_eq_false hin] at HH
    clear h hin hok
    go_enter Try.func32, Try.ntmps32
    go_wp2_with fail
    refine HH.out.mono ?_
    rintro e w1 ⟨rfl, rfl⟩
    go_wp2_with fail
    go_ret
    exact ⟨by rw [H.out]; rfl, by rw [H2.out]; exact Hp.out⟩

end Go.Proofs.Ytebcginnnjigjaa

end
section
/- The document's nets: one is there twice; one is cut; another one. -/
open Go.RowKit
namespace Go.Proofs.Ytebcginnnjigjaa

/-! ### one is cut -/
theorem PRow.set0 {w : World} {b c : Nat} {ps : List (Int × ByteArray)} (h : PRow w (some ⟨b, 0, none⟩) c ps) (k : Nat) (hk : k < ps.length) : PRow (w.setCell ⟨b, k * 2, none⟩ (.int .i64 ps[k].1)) (some ⟨b, 0, none⟩) c ps := by
  have h1 := (World.ownsRow.stored h (k * 2) (.int .i64 ps[k].1)).1
  rw [pks_set0 ps k hk] at h1
  exact h1
theorem NetR.cutAt {w : World} {g b c : Nat} {σ : Nt} (h : NetR w g (some ⟨b, 0, none⟩) c σ) (hb : b ≠ g) (k : Nat) (hk : k < σ.ps.length) (s : ByteArray) :
    NetRPost w g (some ⟨b, 0, none⟩) ⟨σ.s, σ.c, σ.l, σ.ps.set k (σ.ps[k].1, s)⟩ ((w.setCell ⟨b, k * 2, none⟩ (.int .i64 σ.ps[k].1)).setCell ⟨b, k * 2 + 1, none⟩ (.string s)) := by
  refine ⟨some ⟨b, 0, none⟩, c, ⟨?_, (h.2.1.set0 k hk).set1 k hk s, h.2.2⟩, fun _ hk => .inl hk, ((Chg.refl _ _).set b _ _ (fun _ => .inr rfl)).set b _ _ (fun _ => .inr rfl)⟩
  rw [List.length_set]
  exact (heap_setCell_other _ ⟨b, k * 2 + 1, none⟩ g _ (fun e => hb e.symm)).trans ((heap_setCell_other w ⟨b, k * 2, none⟩ g _ (fun e => hb e.symm)).trans h.1)
theorem NetRPost.from {w w1 w2 : World} {g : Nat} {A : Option Addr} {σ : Nt} (h : NetRPost w1 g A σ w2) (hb : Below w.heap.size w w1) : NetRPost w g A σ w2 := by
  obtain ⟨A', c', h1, h2, h3⟩ := h
  exact ⟨A', c', h1, fun k hk => by
    rcases h2 k hk with h | h
    · exact .inl h
    · exact .inr (Nat.le_trans hb.size h), (Chg.of_below hb).trans h3 (fun _ _ h => h)⟩

end Go.Proofs.Ytebcginnnjigjaa

end
section
/- The document's nets: another one. -/
open Go.RowKit
namespace Go.Proofs.Ytebcginnnjigjaa

end Go.Proofs.Ytebcginnnjigjaa

end
section
/- A net of the program's and one of the document's, side by side. -/
open Go.RowKit
namespace Go.Proofs.Ytebcginnnjigjaa

/-- What is kept: all blocks but those of F. -/
def KeepP (F : Nat → Prop) (w w' : World) : Prop := w.heap.size ≤ w'.heap.size ∧ ∀ k, k < w.heap.size → ¬ F k → w'.heap[k]? = w.heap[k]?
theorem KeepP.refl (F : Nat → Prop) (w : World) : KeepP F w w := ⟨Nat.le_refl _, fun _ _ _ => rfl⟩
theorem KeepP.trans (F : Nat → Prop) (a b c : World) (h : KeepP F a b) (k : KeepP F b c) : KeepP F a c :=
  ⟨Nat.le_trans h.1 k.1, fun i hi hF => (k.2 i (Nat.lt_of_lt_of_le hi h.1) hF).trans (h.2 i hi hF)⟩
theorem KeepP.of_chg {F G : Nat → Prop} {w w' : World} (h : Chg G w w') (hG : ∀ i, i < w.heap.size → G i → F i) : KeepP F w w' := ⟨h.size, fun i hi hF => h.block i hi (fun g => hF (hG i hi g))⟩
theorem KeepP.cell {F : Nat → Prop} {w w' : World} (h : KeepP F w w') {p : Addr} {v : Value} (hp : w.cell? p = some v) (hm : ¬ F p.block) : w'.cell? p = some v := by
  have h1 := h.2 p.block (World.block_lt_of_cell? _ _ hp) hm
  rw [← hp]
  unfold World.cell?
  rw [h1]

/-- Both nets, apart. -/
structure Duo (w : World) (g : Nat) (A : Option Addr) (c : Nat) (g' : Nat) (A' : Option Addr) (c' : Nat) (σ τ : Nt) : Prop where
  n : NetP w g A c σ
  r : NetR w g' A' c' τ
  d : ∀ i, Foot g A i → ¬ Foot g' A' i
def F2 (g : Nat) (A : Option Addr) (g' : Nat) (A' : Option Addr) : Nat → Prop := fun i => Foot g A i ∨ Foot g' A' i
def DuoPost (w : World) (g : Nat) (A : Option Addr) (g' : Nat) (A' : Option Addr) (σ : Nt) (w' : World) : Prop :=
  ∃ A1 c1 A2 c2, Duo w' g A1 c1 g' A2 c2 σ σ ∧ (∀ k, blk A1 = some k → blk A = some k ∨ w.heap.size ≤ k) ∧ (∀ k, blk A2 = some k → blk A' = some k ∨ w.heap.size ≤ k) ∧ Chg (F2 g A g' A') w w'
section
variable {w w1 w2 : World} {g : Nat} {A : Option Addr} {c : Nat} {g' : Nat} {A' : Option Addr} {c' : Nat} {σ τ σ' : Nt}
theorem Duo.chg {F : Nat → Prop} (h : Duo w g A c g' A' c' σ τ) (hc : Chg F w w1) (hF : ∀ i, F2 g A g' A' i → ¬ F i) : Duo w1 g A c g' A' c' σ τ :=
  ⟨h.n.chg hc (fun i hi => hF i (.inl hi)), h.r.chg hc (fun i hi => hF i (.inr hi)), h.d⟩
theorem Duo.foot (h : Duo w g A c g' A' c' σ τ) : ∀ i, F2 g A g' A' i → i < w.heap.size := fun i hi => hi.elim (h.n.foot i) (h.r.foot i)
/-- A method of the program's net. -/
theorem Duo.onN (h : Duo w g A c g' A' c' σ τ) (hp : NetPost w g A σ' w1) : ∃ A1 c1, Duo w1 g A1 c1 g' A' c' σ' τ ∧ (∀ k, blk A1 = some k → blk A = some k ∨ w.heap.size ≤ k) ∧ Chg (Foot g A) w w1 := by
  obtain ⟨A1, c1, h1, h2, h3⟩ := hp
  refine ⟨A1, c1, ⟨h1, h.r.chg h3 (fun i hi hj => h.d i hj hi), fun i hi hj => ?_⟩, h2, h3⟩
  rcases hi with hi | hi
  · exact h.d i (.inl hi) hj
  · rcases h2 i hi with h4 | h4
    · exact h.d i (.inr h4) hj
    · have := h.r.foot i hj; omega
/-- A method of the document's. -/
theorem Duo.onR (h : Duo w g A c g' A' c' σ τ) (hp : NetRPost w g' A' σ' w1) : ∃ A1 c1, Duo w1 g A c g' A1 c1 σ σ' ∧ (∀ k, blk A1 = some k → blk A' = some k ∨ w.heap.size ≤ k) ∧ Chg (Foot g' A') w w1 := by
  obtain ⟨A1, c1, h1, h2, h3⟩ := hp
  refine ⟨A1, c1, ⟨h.n.chg h3 (fun i hi hj => h.d i hi hj), h1, fun i hi hj => ?_⟩, h2, h3⟩
  rcases hj with hj | hj
  · exact h.d i hi (.inl hj)
  · rcases h2 i hj with h4 | h4
    · exact h.d i hi (.inr h4)
    · have := h.n.foot i hi; omega
end

theorem duo_both {w w1 w1' w2 : World} {g : Nat} {A A1 A2 : Option Addr} {c1 c2 : Nat} {g' : Nat} {A' : Option Addr} {σ : Nt} (h2 : Duo w2 g A1 c1 g' A2 c2 σ σ) (n1 : ∀ k, blk A1 = some k → blk A = some k ∨ w.heap.size ≤ k) (C1 : Chg (Foot g A) w w1) (hb : Below w1.heap.size w1 w1')
    (n2 : ∀ k, blk A2 = some k → blk A' = some k ∨ w1'.heap.size ≤ k) (C2 : Chg (Foot g' A') w1' w2) : DuoPost w g A g' A' σ w2 :=
  ⟨A1, c1, A2, c2, h2, n1, fun k hk => (n2 k hk).imp id (fun h => Nat.le_trans (Nat.le_trans C1.size hb.size) h),
    ((C1.mono (fun _ _ h => .inl h)).trans (Chg.of_below (F := fun _ => False) hb) (fun _ _ f => f.elim)).trans C2 (fun _ _ h => .inr h)⟩
theorem DuoPost.from {w w1 w2 : World} {g : Nat} {A : Option Addr} {g' : Nat} {A' : Option Addr} {σ : Nt} (h : DuoPost w1 g A g' A' σ w2) (hb : Below w.heap.size w w1) : DuoPost w g A g' A' σ w2 := by
  obtain ⟨A1, c1, A2, c2, hd, n1, n2, C⟩ := h
  exact ⟨A1, c1, A2, c2, hd, fun k hk => (n1 k hk).imp id (Nat.le_trans hb.size), fun k hk => (n2 k hk).imp id (Nat.le_trans hb.size), (Chg.of_below hb).trans C (fun _ _ h => h)⟩
theorem DuoPost.then {w w1 w2 : World} {g : Nat} {A : Option Addr} {g' : Nat} {A' : Option Addr} {σ : Nt} (h : DuoPost w g A g' A' σ w1) (hb : Below w1.heap.size w1 w2) : DuoPost w g A g' A' σ w2 := by
  obtain ⟨A1, c1, A2, c2, hd, n1, n2, C⟩ := h
  exact ⟨A1, c1, A2, c2, hd.chg (F := fun _ => False) (.of_below hb) (fun _ _ f => f), n1, n2, C.trans (Chg.of_below (F := fun _ => False) hb) (fun _ _ f => f.elim)⟩

theorem Duo.same {w : World} {g : Nat} {A : Option Addr} {c : Nat} {g' : Nat} {A' : Option Addr} {c' : Nat} {σ : Nt} (h : Duo w g A c g' A' c' σ σ) : DuoPost w g A g' A' σ w := ⟨A, c, A', c', h, fun _ hk => .inl hk, fun _ hk => .inl hk, Chg.refl _ _⟩
theorem Chg.cell {F : Nat → Prop} {w w' : World} (h : Chg F w w') {p : Addr} {v : Value} (hp : w.cell? p = some v) (hm : ¬ F p.block) : w'.cell? p = some v := (KeepP.of_chg h (fun _ _ f => f)).cell hp hm

/-- An act. -/
structure ActV where
  k : Int
  to : Int
  i : Int
  n : Int
  b : ByteArray
def ActV.cells (a : ActV) : Array Value := #[.int .i64 a.k, .int .i64 a.to, .int .i64 a.i, .int .i64 a.n, .string a.b]
def stepN (σ : Nt) (a : ActV) : Nt :=
  if a.k.tmod 7 = 0 then sendN σ a.to a.b else if a.k.tmod 7 = 1 then σ else if a.k.tmod 7 = 2 then takeN σ a.i else if a.k.tmod 7 = 3 then loseN σ a.i
  else if a.k.tmod 7 = 4 then twiceN σ a.i else if a.k.tmod 7 = 5 then cutN σ a.i a.n else dropN σ
theorem cells5 {w : World} {g : Nat} {t : TypeId} {v0 v1 v2 v3 v4 : Value} (h : w.heap[g]? = some (.cells #[v0, v1, v2, v3, v4] t (0, 0))) :
    w.cell? ⟨g, 0, none⟩ = some v0 ∧ w.cell? ⟨g, 1, none⟩ = some v1 ∧ w.cell? ⟨g, 2, none⟩ = some v2 ∧ w.cell? ⟨g, 3, none⟩ = some v3 ∧ w.cell? ⟨g, 4, none⟩ = some v4 :=
  ⟨(cell_at h 0 rfl).1, (cell_at h 1 rfl).1, (cell_at h 2 rfl).1, (cell_at h 3 rfl).1, (cell_at h 4 rfl).1⟩

end Go.Proofs.Ytebcginnnjigjaa

end
