import Derived.Test.YtebcginnnjigjaaC17
import Derived.Test.YtebcginnnjigjaaC12
import Derived.Test.YtebcginnnjigjaaC5
import Derived.Test.YtebcginnnjigjaaC11
section
/- Frames: a body that grows. -/
open Go.RowKit
namespace Go.Proofs.Ytebcginnnjigjaa

/-- Block g is a writer: its bytes lie at A. -/
structure IsW (w : World) (g : Nat) (A : Option Addr) (c : Nat) (L : List UInt8) (b : Bool) : Prop where
  cell : w.heap[g]? = some (.cells #[.slice A L.length c, .bool b] 93 (0, 0))
  row : BRow w A c L
  ne : blk A ≠ some g
def WF (g : Nat) (A : Option Addr) : Nat → Prop := fun i => i = g ∨ blk A = some i
/-- What a step leaves. -/
def WPost (w : World) (g : Nat) (A : Option Addr) (L : List UInt8) (b : Bool) (w' : World) : Prop := ∃ A' c', IsW w' g A' c' L b ∧ Chg (WF g A) w w' ∧ ∀ k, blk A' = some k → blk A = some k ∨ w.heap.size ≤ k
section
variable {w w1 w2 : World} {g : Nat} {A : Option Addr} {c : Nat} {L : List UInt8} {b : Bool}
theorem IsW.lt (h : IsW w g A c L b) : g < w.heap.size := (Array.getElem?_eq_some_iff.1 h.cell).1
theorem IsW.chg {F : Nat → Prop} (h : IsW w g A c L b) (hc : Chg F w w1) (hF : ∀ i, WF g A i → ¬ F i) : IsW w1 g A c L b :=
  ⟨(hc.block g h.lt (hF g (.inl rfl))).trans h.cell, h.row.chg hc (fun k hk => hF k (.inr hk)), h.ne⟩
theorem IsW.below (h : IsW w g A c L b) (hb : Below w.heap.size w w1) : IsW w1 g A c L b := h.chg (F := fun _ => False) (.of_below hb) (fun _ _ f => f)
theorem IsW.foot (h : IsW w g A c L b) : ∀ i, WF g A i → i < w.heap.size := fun i hi => by
  rcases hi with rfl | hi
  · exact h.lt
  · exact h.row.lt hi
/-- It is wrong, or not. -/
theorem IsW.setB (h : IsW w g A c L b) (b2 : Bool) : IsW (w.setCell ⟨g, 1, none⟩ (.bool b2)) g A c L b2 :=
  ⟨heap_setCell_same w g 1 _ _ _ h.cell, h.row.chg (F := fun i => i = g) ((Chg.refl _ _).set g 1 _ (fun _ => rfl)) (fun k hk e => h.ne (e ▸ hk)), h.ne⟩
/-- Its bytes are others. -/
theorem IsW.setL {A' : Option Addr} {c' : Nat} {L' : List UInt8} (h : IsW w g A c L b) (hr : BRow w A' c' L') (hne : blk A' ≠ some g) : IsW (w.setCell ⟨g, 0, none⟩ (.slice A' L'.length c')) g A' c' L' b :=
  ⟨heap_setCell_same w g 0 _ _ _ h.cell, hr.chg (F := fun i => i = g) ((Chg.refl _ _).set g 0 _ (fun _ => rfl)) (fun k hk e => hne (e ▸ hk)), hne⟩
theorem WPost.then_ {A1 : Option Addr} {c1 : Nat} {L1 : List UInt8} {b1 : Bool} (h : IsW w1 g A1 c1 L1 b1) (hc : Chg (WF g A) w w1) (hk : ∀ k, blk A1 = some k → blk A = some k ∨ w.heap.size ≤ k) {L2 : List UInt8} {b2 : Bool} (hp : WPost w1 g A1 L2 b2 w2) : WPost w g A L2 b2 w2 := by
  obtain ⟨A2, c2, h2, hc2, hk2⟩ := hp
  have hs := hc.size
  refine ⟨A2, c2, h2, hc.trans hc2 (fun i hi hf => ?_), fun k e => ?_⟩
  · rcases hf with hf | hf
    · exact .inl hf
    · rcases hk i hf with h3 | h3
      · exact .inr h3
      · omega
  · rcases hk2 k e with h3 | h3
    · exact hk k h3
    · right; omega
end

def u64n (n : Int) : Nat := (n % 18446744073709551616).toNat
theorem u64n_lt (n : Int) : u64n n < 18446744073709551616 := by unfold u64n; omega
theorem u64n_wrap (n : Int) : IntKind.u64.wrap n = (u64n n : Int) := by
  unfold u64n IntKind.wrap
  simp [IntKind.signed, IntKind.bits]
  omega
def numBad (k : Nat) (n : Int) : Bool := decide (n < 0) || decide ((256 ^ k : Nat) ≤ n)

set_option maxHeartbeats 1000000 in
set_option maxRecDepth 100000 in
theorem frNum1_any {w : World} {g : Nat} {A : Option Addr} {c : Nat} {L : List UInt8} {b : Bool} (h : IsW w g A c L b) (n : Int) (hl : L.length + 8 ≤ 140737488355328) :
    Calls Try.prog 63 #[.pointer (some ⟨g, 0, none⟩), .int .i64 1, .int .i64 n] w fun e w' => e = .returned (.tuple #[]) ∧ WPost w g A (L ++ be 1 (u64n n)) (b || numBad 1 n) w' := by
  obtain ⟨c0, c1, f0, f1⟩ := cells2 h.cell
  have hu := u64n_wrap n
  have key : ∀ v : Bool, (b || numBad 1 n) = v → ∀ A' c' w1, OwnB w1 (w.setCell ⟨g, 1, none⟩ (.bool v)).heap.size A' c' (L ++ be 1 (u64n n)) → Below (w.setCell ⟨g, 1, none⟩ (.bool v)).heap.size (w.setCell ⟨g, 1, none⟩ (.bool v)) w1 →
      WPost w g A (L ++ be 1 (u64n n)) (b || numBad 1 n) (w1.setCell ⟨g, 0, none⟩ (.slice A' (L.length + 1) c')) ∧ (∃ u, w1.cell? ⟨g, 0, none⟩ = some u) ∧ w1.frozen? ⟨g, 0, none⟩ = false := by
    intro v hv A' c' w1 ho hb
    obtain ⟨hr, hge⟩ := BRow.of_own ho
    have hW1 := (h.setB v).below hb
    rw [size_set] at hge
    have hgl := h.lt
    have hfin := hW1.setL hr (fun e => by have := hge g e; omega)
    have el : (L ++ be 1 (u64n n)).length = L.length + 1 := by rw [List.length_append, be_length]
    rw [el] at hfin
    rw [hv]
    have hcells := cells2 hW1.cell
    refine ⟨⟨A', c', hfin, ?_, fun k hk => .inr (hge k hk)⟩, ⟨_, hcells.1⟩, hcells.2.2.1⟩
    have hc1 : Chg (WF g A) w (w.setCell ⟨g, 1, none⟩ (.bool v)) := (Chg.refl _ w).set g 1 _ (fun _ => .inl rfl)
    exact (hc1.trans (Chg.of_below (F := fun _ => False) hb) (fun _ _ f => f.elim)).trans ((Chg.refl (fun i => i = g) w1).set g 0 _ (fun _ => rfl)) (fun i _ e => .inl e)
  have Hkey := Lib.hid key
  clear key
  have hsp : (b = true) ∨ (b = false ∧ n < 0) ∨ (b = false ∧ ¬ n < 0 ∧ 256 ≤ n) ∨ (b = false ∧ ¬ n < 0 ∧ ¬ 256 ≤ n) := by
    cases b
    · by_cases h0 : n < 0
      · exact .inr (.inl ⟨rfl, h0⟩)
      · by_cases h1 : 256 ≤ n
        · exact .inr (.inr (.inl ⟨rfl, h0, h1⟩))
        · exact .inr (.inr (.inr ⟨rfl, h0, h1⟩))
    · exact .inl rfl
  rcases hsp with rfl | ⟨rfl, h0⟩ | ⟨rfl, h0, h1⟩ | ⟨rfl, h0, h1⟩
  · obtain ⟨v, hv⟩ : ∃ v, v = true := ⟨_, rfl⟩
    have Hv := Lib.hid (show (true || numBad 1 n) = true from rfl)
    have HW1 := Lib.hid (h.setB v)
    have HP := Lib.hid (put_any A L c 1 (u64n n) (u64n_lt n) _ HW1.out.row.reads hl)
    clear h
    subst hv
    go_enter Try.func63, Try.ntmps63
    go_wp2_with fail
    refine HP.out.mono ?_
    rintro e w1 ⟨A', c', rfl, ho, hb⟩
    rw [wPut_ok (wOk_true (by omega) (by omega))] at ho ⊢
    obtain ⟨k1, ⟨u, k2⟩, k3⟩ := Hkey.out _ Hv.out A' c' w1 ho hb
    have K1 := Lib.hid k1
    have el : (L ++ be (Int.toNat 1) (u64n n)).length = L.length + 1 := by rw [List.length_append, be_length]; rfl
    rw [el]
    clear ho hb k1 c0 c1 f0 f1 el
    go_wp2_with fail
    go_end0
    exact ⟨rfl, K1.out⟩
  · obtain ⟨v, hv⟩ : ∃ v, v = true := ⟨_, rfl⟩
    have Hv := Lib.hid (show (false || numBad 1 n) = true by unfold numBad; rw [decide_eq_true h0]; rfl)
    have HW1 := Lib.hid (h.setB v)
    have HP := Lib.hid (put_any A L c 1 (u64n n) (u64n_lt n) _ HW1.out.row.reads hl)
    clear h
    subst hv
    go_enter Try.func63, Try.ntmps63
    go_wp2_with fail
    refine HP.out.mono ?_
    rintro e w1 ⟨A', c', rfl, ho, hb⟩
    rw [wPut_ok (wOk_true (by omega) (by omega))] at ho ⊢
    obtain ⟨k1, ⟨u, k2⟩, k3⟩ := Hkey.out _ Hv.out A' c' w1 ho hb
    have K1 := Lib.hid k1
    have el : (L ++ be (Int.toNat 1) (u64n n)).length = L.length + 1 := by rw [List.length_append, be_length]; rfl
    rw [el]
    clear ho hb k1 c0 c1 f0 f1 el
    go_wp2_with fail
    go_end0
    exact ⟨rfl, K1.out⟩
  · obtain ⟨v, hv⟩ : ∃ v, v = true := ⟨_, rfl⟩
    have Hv := Lib.hid (show (false || numBad 1 n) = true by unfold numBad; rw [decide_eq_true (show ((256 ^ 1 : Nat) : Int) ≤ n from h1)]; simp)
    have HW1 := Lib.hid (h.setB v)
    have HP := Lib.hid (put_any A L c 1 (u64n n) (u64n_lt n) _ HW1.out.row.reads hl)
    clear h
    subst hv
    go_enter Try.func63, Try.ntmps63
    go_wp2_with fail
    refine HP.out.mono ?_
    rintro e w1 ⟨A', c', rfl, ho, hb⟩
    rw [wPut_ok (wOk_true (by omega) (by omega))] at ho ⊢
    obtain ⟨k1, ⟨u, k2⟩, k3⟩ := Hkey.out _ Hv.out A' c' w1 ho hb
    have K1 := Lib.hid k1
    have el : (L ++ be (Int.toNat 1) (u64n n)).length = L.length + 1 := by rw [List.length_append, be_length]; rfl
    rw [el]
    clear ho hb k1 c0 c1 f0 f1 el
    go_wp2_with fail
    go_end0
    exact ⟨rfl, K1.out⟩
  · obtain ⟨v, hv⟩ : ∃ v, v = false := ⟨_, rfl⟩
    have Hv := Lib.hid (show (false || numBad 1 n) = false by unfold numBad; rw [decide_eq_false h0, decide_eq_false (show ¬ ((256 ^ 1 : Nat) : Int) ≤ n from h1)]; rfl)
    have HW1 := Lib.hid (h.setB v)
    have HP := Lib.hid (put_any A L c 1 (u64n n) (u64n_lt n) _ HW1.out.row.reads hl)
    clear h
    subst hv
    go_enter Try.func63, Try.ntmps63
    go_wp2_with fail
    refine HP.out.mono ?_
    rintro e w1 ⟨A', c', rfl, ho, hb⟩
    rw [wPut_ok (wOk_true (by omega) (by omega))] at ho ⊢
    obtain ⟨k1, ⟨u, k2⟩, k3⟩ := Hkey.out _ Hv.out A' c' w1 ho hb
    have K1 := Lib.hid k1
    have el : (L ++ be (Int.toNat 1) (u64n n)).length = L.length + 1 := by rw [List.length_append, be_length]; rfl
    rw [el]
    clear ho hb k1 c0 c1 f0 f1 el
    go_wp2_with fail
    go_end0
    exact ⟨rfl, K1.out⟩
set_option maxHeartbeats 1000000 in
set_option maxRecDepth 100000 in
theorem frNum2_any {w : World} {g : Nat} {A : Option Addr} {c : Nat} {L : List UInt8} {b : Bool} (h : IsW w g A c L b) (n : Int) (hl : L.length + 8 ≤ 140737488355328) :
    Calls Try.prog 63 #[.pointer (some ⟨g, 0, none⟩), .int .i64 2, .int .i64 n] w fun e w' => e = .returned (.tuple #[]) ∧ WPost w g A (L ++ be 2 (u64n n)) (b || numBad 2 n) w' := by
  obtain ⟨c0, c1, f0, f1⟩ := cells2 h.cell
  have hu := u64n_wrap n
  have key : ∀ v : Bool, (b || numBad 2 n) = v → ∀ A' c' w1, OwnB w1 (w.setCell ⟨g, 1, none⟩ (.bool v)).heap.size A' c' (L ++ be 2 (u64n n)) → Below (w.setCell ⟨g, 1, none⟩ (.bool v)).heap.size (w.setCell ⟨g, 1, none⟩ (.bool v)) w1 →
      WPost w g A (L ++ be 2 (u64n n)) (b || numBad 2 n) (w1.setCell ⟨g, 0, none⟩ (.slice A' (L.length + 2) c')) ∧ (∃ u, w1.cell? ⟨g, 0, none⟩ = some u) ∧ w1.frozen? ⟨g, 0, none⟩ = false := by
    intro v hv A' c' w1 ho hb
    obtain ⟨hr, hge⟩ := BRow.of_own ho
    have hW1 := (h.setB v).below hb
    rw [size_set] at hge
    have hgl := h.lt
    have hfin := hW1.setL hr (fun e => by have := hge g e; omega)
    have el : (L ++ be 2 (u64n n)).length = L.length + 2 := by rw [List.length_append, be_length]
    rw [el] at hfin
    rw [hv]
    have hcells := cells2 hW1.cell
    refine ⟨⟨A', c', hfin, ?_, fun k hk => .inr (hge k hk)⟩, ⟨_, hcells.1⟩, hcells.2.2.1⟩
    have hc1 : Chg (WF g A) w (w.setCell ⟨g, 1, none⟩ (.bool v)) := (Chg.refl _ w).set g 1 _ (fun _ => .inl rfl)
    exact (hc1.trans (Chg.of_below (F := fun _ => False) hb) (fun _ _ f => f.elim)).trans ((Chg.refl (fun i => i = g) w1).set g 0 _ (fun _ => rfl)) (fun i _ e => .inl e)
  have Hkey := Lib.hid key
  clear key
  have hsp : (b = true) ∨ (b = false ∧ n < 0) ∨ (b = false ∧ ¬ n < 0 ∧ 65536 ≤ n) ∨ (b = false ∧ ¬ n < 0 ∧ ¬ 65536 ≤ n) := by
    cases b
    · by_cases h0 : n < 0
      · exact .inr (.inl ⟨rfl, h0⟩)
      · by_cases h1 : 65536 ≤ n
        · exact .inr (.inr (.inl ⟨rfl, h0, h1⟩))
        · exact .inr (.inr (.inr ⟨rfl, h0, h1⟩))
    · exact .inl rfl
  rcases hsp with rfl | ⟨rfl, h0⟩ | ⟨rfl, h0, h1⟩ | ⟨rfl, h0, h1⟩
  · obtain ⟨v, hv⟩ : ∃ v, v = true := ⟨_, rfl⟩
    have Hv := Lib.hid (show (true || numBad 2 n) = true from rfl)
    have HW1 := Lib.hid (h.setB v)
    have HP := Lib.hid (put_any A L c 2 (u64n n) (u64n_lt n) _ HW1.out.row.reads hl)
    clear h
    subst hv
    go_enter Try.func63, Try.ntmps63
    go_wp2_with fail
    refine HP.out.mono ?_
    rintro e w1 ⟨A', c', rfl, ho, hb⟩
    rw [wPut_ok (wOk_true (by omega) (by omega))] at ho ⊢
    obtain ⟨k1, ⟨u, k2⟩, k3⟩ := Hkey.out _ Hv.out A' c' w1 ho hb
    have K1 := Lib.hid k1
    have el : (L ++ be (Int.toNat 2) (u64n n)).length = L.length + 2 := by rw [List.length_append, be_length]; rfl
    rw [el]
    clear ho hb k1 c0 c1 f0 f1 el
    go_wp2_with fail
    go_end0
    exact ⟨rfl, K1.out⟩
  · obtain ⟨v, hv⟩ : ∃ v, v = true := ⟨_, rfl⟩
    have Hv := Lib.hid (show (false || numBad 2 n) = true by unfold numBad; rw [decide_eq_true h0]; rfl)
    have HW1 := Lib.hid (h.setB v)
    have HP := Lib.hid (put_any A L c 2 (u64n n) (u64n_lt n) _ HW1.out.row.reads hl)
    clear h
    subst hv
    go_enter Try.func63, Try.ntmps63
    go_wp2_with fail
    refine HP.out.mono ?_
    rintro e w1 ⟨A', c', rfl, ho, hb⟩
    rw [wPut_ok (wOk_true (by omega) (by omega))] at ho ⊢
    obtain ⟨k1, ⟨u, k2⟩, k3⟩ := Hkey.out _ Hv.out A' c' w1 ho hb
    have K1 := Lib.hid k1
    have el : (L ++ be (Int.toNat 2) (u64n n)).length = L.length + 2 := by rw [List.length_append, be_length]; rfl
    rw [el]
    clear ho hb k1 c0 c1 f0 f1 el
    go_wp2_with fail
    go_end0
    exact ⟨rfl, K1.out⟩
  · obtain ⟨v, hv⟩ : ∃ v, v = true := ⟨_, rfl⟩
    have Hv := Lib.hid (show (false || numBad 2 n) = true by unfold numBad; rw [decide_eq_true (show ((256 ^ 2 : Nat) : Int) ≤ n from h1)]; simp)
    have HW1 := Lib.hid (h.setB v)
    have HP := Lib.hid (put_any A L c 2 (u64n n) (u64n_lt n) _ HW1.out.row.reads hl)
    clear h
    subst hv
    go_enter Try.func63, Try.ntmps63
    go_wp2_with fail
    refine HP.out.mono ?_
    rintro e w1 ⟨A', c', rfl, ho, hb⟩
    rw [wPut_ok (wOk_true (by omega) (by omega))] at ho ⊢
    obtain ⟨k1, ⟨u, k2⟩, k3⟩ := Hkey.out _ Hv.out A' c' w1 ho hb
    have K1 := Lib.hid k1
    have el : (L ++ be (Int.toNat 2) (u64n n)).length = L.length + 2 := by rw [List.length_append, be_length]; rfl
    rw [el]
    clear ho hb k1 c0 c1 f0 f1 el
    go_wp2_with fail
    go_end0
    exact ⟨rfl, K1.out⟩
  · obtain ⟨v, hv⟩ : ∃ v, v = false := ⟨_, rfl⟩
    have Hv := Lib.hid (show (false || numBad 2 n) = false by unfold numBad; rw [decide_eq_false h0, decide_eq_false (show ¬ ((256 ^ 2 : Nat) : Int) ≤ n from h1)]; rfl)
    have HW1 := Lib.hid (h.setB v)
    have HP := Lib.hid (put_any A L c 2 (u64n n) (u64n_lt n) _ HW1.out.row.reads hl)
    clear h
    subst hv
    go_enter Try.func63, Try.ntmps63
    go_wp2_with fail
    refine HP.out.mono ?_
    rintro e w1 ⟨A', c', rfl, ho, hb⟩
    rw [wPut_ok (wOk_true (by omega) (by omega))] at ho ⊢
    obtain ⟨k1, ⟨u, k2⟩, k3⟩ := Hkey.out _ Hv.out A' c' w1 ho hb
    have K1 := Lib.hid k1
    have el : (L ++ be (Int.toNat 2) (u64n n)).length = L.length + 2 := by rw [List.length_append, be_length]; rfl
    rw [el]
    clear ho hb k1 c0 c1 f0 f1 el
    go_wp2_with fail
    go_end0
    exact ⟨rfl, K1.out⟩
set_option maxHeartbeats 1000000 in
set_option maxRecDepth 100000 in
theorem frText_any {w : World} {g : Nat} {A : Option Addr} {c : Nat} {L : List UInt8} {b : Bool} (h : IsW w g A c L b) (s : ByteArray) (r : Bool) (hl : L.length + s.size ≤ 140737488355328) :
    Calls Try.prog 64 #[.pointer (some ⟨g, 0, none⟩), .string s, .bool r] w fun e w' => e = .returned (.tuple #[]) ∧ WPost w g A (L ++ bl s) (b || !r) w' := by
  obtain ⟨c0, c1, f0, f1⟩ := cells2 h.cell
  have key : ∀ v : Bool, (b || !r) = v → ∀ A' c' w1, BRow w1 A' c' (L ++ bl s) → Chg (fun i => blk A = some i) (w.setCell ⟨g, 1, none⟩ (.bool v)) w1 → (∀ k, blk A' = some k → blk A = some k ∨ w.heap.size ≤ k) →
      WPost w g A (L ++ bl s) (b || !r) (w1.setCell ⟨g, 0, none⟩ (.slice A' (L.length + s.size) c')) ∧ (∃ u, w1.cell? ⟨g, 0, none⟩ = some u) ∧ w1.frozen? ⟨g, 0, none⟩ = false := by
    intro v hv A' c' w1 hr hc hk
    have hW0 := h.setB v
    have hgl := h.lt
    have hne : blk A' ≠ some g := fun e => by
      rcases hk g e with h1 | h1
      · exact h.ne h1
      · omega
    have hcell : w1.heap[g]? = _ := (hc.block g hW0.lt h.ne).trans hW0.cell
    have el : (L ++ bl s).length = L.length + s.size := by rw [List.length_append, bl_length]
    have hcells := cells2 hcell
    have hfin : IsW (w1.setCell ⟨g, 0, none⟩ (.slice A' (L ++ bl s).length c')) g A' c' (L ++ bl s) v := ⟨heap_setCell_same w1 g 0 _ _ _ hcell, hr.chg (F := fun i => i = g) ((Chg.refl _ _).set g 0 _ (fun _ => rfl)) (fun k hk e => hne (e ▸ hk)), hne⟩
    rw [el] at hfin
    rw [hv]
    refine ⟨⟨A', c', hfin, ?_, hk⟩, ⟨_, hcells.1⟩, hcells.2.2.1⟩
    have hc1 : Chg (WF g A) w (w.setCell ⟨g, 1, none⟩ (.bool v)) := (Chg.refl _ w).set g 1 _ (fun _ => .inl rfl)
    exact (hc1.trans hc (fun i _ e => .inr e)).trans ((Chg.refl (fun i => i = g) w1).set g 0 _ (fun _ => rfl)) (fun i _ e => .inl e)
  have Hkey := Lib.hid key
  clear key
  cases b with
  | true =>
    obtain ⟨v, hv⟩ : ∃ v, v = true := ⟨_, rfl⟩
    have Hv := Lib.hid (show (true || !r) = true from rfl)
    have HW1 := Lib.hid (h.setB v)
    have Hsz := Lib.hid (show (w.setCell ⟨g, 1, none⟩ (.bool v)).heap.size = w.heap.size from size_set _ _ _)
    clear h
    subst hv
    go_enter Try.func64, Try.ntmps64
    go_wp2_with (at_builtin; refine wpList_append_bs rfl (.tmp 21) (.tmp 22) rfl A c L rfl HW1.out.row s rfl hl ?_)
    intro A' c' w1 hr hc hk
    obtain ⟨k1, ⟨u, k2⟩, k3⟩ := Hkey.out _ Hv.out A' c' w1 hr hc (fun k e => (hk k e).imp id (fun e => by omega))
    have K1 := Lib.hid k1
    have el : (L ++ bl s).length = L.length + s.size := by rw [List.length_append, bl_length]
    try rw [el]
    try rw [bl_length s]
    clear hr hc hk k1 c0 c1 f0 f1 el
    go_wp2_with fail
    go_end0
    exact ⟨rfl, K1.out⟩
  | false =>
    cases r with
    | true =>
      obtain ⟨v, hv⟩ : ∃ v, v = false := ⟨_, rfl⟩
      have Hv := Lib.hid (show (false || !true) = false from rfl)
      have HW1 := Lib.hid (h.setB v)
      have Hsz := Lib.hid (show (w.setCell ⟨g, 1, none⟩ (.bool v)).heap.size = w.heap.size from size_set _ _ _)
      clear h
      subst hv
      go_enter Try.func64, Try.ntmps64
      go_wp2_with (at_builtin; refine wpList_append_bs rfl (.tmp 21) (.tmp 22) rfl A c L rfl HW1.out.row s rfl hl ?_)
      intro A' c' w1 hr hc hk
      obtain ⟨k1, ⟨u, k2⟩, k3⟩ := Hkey.out _ Hv.out A' c' w1 hr hc (fun k e => (hk k e).imp id (fun e => by omega))
      have K1 := Lib.hid k1
      have el : (L ++ bl s).length = L.length + s.size := by rw [List.length_append, bl_length]
      try rw [el]
      try rw [bl_length s]
      clear hr hc hk k1 c0 c1 f0 f1 el
      go_wp2_with fail
      go_end0
      exact ⟨rfl, K1.out⟩
    | false =>
      obtain ⟨v, hv⟩ : ∃ v, v = true := ⟨_, rfl⟩
      have Hv := Lib.hid (show (false || !false) = true from rfl)
      have HW1 := Lib.hid (h.setB v)
      have Hsz := Lib.hid (show (w.setCell ⟨g, 1, none⟩ (.bool v)).heap.size = w.heap.size from size_set _ _ _)
      clear h
      subst hv
      go_enter Try.func64, Try.ntmps64
      go_wp2_with (at_builtin; refine wpList_append_bs rfl (.tmp 21) (.tmp 22) rfl A c L rfl HW1.out.row s rfl hl ?_)
      intro A' c' w1 hr hc hk
      obtain ⟨k1, ⟨u, k2⟩, k3⟩ := Hkey.out _ Hv.out A' c' w1 hr hc (fun k e => (hk k e).imp id (fun e => by omega))
      have K1 := Lib.hid k1
      have el : (L ++ bl s).length = L.length + s.size := by rw [List.length_append, bl_length]
      try rw [el]
      try rw [bl_length s]
      clear hr hc hk k1 c0 c1 f0 f1 el
      go_wp2_with fail
      go_end0
      exact ⟨rfl, K1.out⟩
end Go.Proofs.Ytebcginnnjigjaa

end
section
/- Frames: the body of one; what is told of it. -/
open Go.RowKit
namespace Go.Proofs.Ytebcginnnjigjaa

section
variable {w : World} {g : Nat}
theorem set11 {cs : Array Value} {ty : TypeId} (h : w.heap[g]? = some (.cells cs ty (0, 0))) (hsz : ∃ u0 u1 u2 u3 u4 u5 u6 u7 u8 u9 u10, cs = #[u0, u1, u2, u3, u4, u5, u6, u7, u8, u9, u10]) (v0 v1 v2 v3 v4 v5 v6 v7 v8 v9 v10 : Value) :
    (((((((((((w.setCell ⟨g, 0, none⟩ v0).setCell ⟨g, 1, none⟩ v1).setCell ⟨g, 2, none⟩ v2).setCell ⟨g, 3, none⟩ v3).setCell ⟨g, 4, none⟩ v4).setCell ⟨g, 5, none⟩ v5).setCell ⟨g, 6, none⟩ v6).setCell ⟨g, 7, none⟩ v7).setCell ⟨g, 8, none⟩ v8).setCell ⟨g, 9, none⟩ v9).setCell ⟨g, 10, none⟩ v10).heap[g]? = some (.cells #[v0, v1, v2, v3, v4, v5, v6, v7, v8, v9, v10] ty (0, 0)) ∧ Chg (fun i => i = g) w (((((((((((w.setCell ⟨g, 0, none⟩ v0).setCell ⟨g, 1, none⟩ v1).setCell ⟨g, 2, none⟩ v2).setCell ⟨g, 3, none⟩ v3).setCell ⟨g, 4, none⟩ v4).setCell ⟨g, 5, none⟩ v5).setCell ⟨g, 6, none⟩ v6).setCell ⟨g, 7, none⟩ v7).setCell ⟨g, 8, none⟩ v8).setCell ⟨g, 9, none⟩ v9).setCell ⟨g, 10, none⟩ v10) := by
  obtain ⟨u0, u1, u2, u3, u4, u5, u6, u7, u8, u9, u10, rfl⟩ := hsz
  have s0 := heap_setCell_same w g 0 _ _ v0 h
  simp only [List.setIfInBounds_toArray, List.set_cons_zero, List.set_cons_succ] at s0
  have s1 := heap_setCell_same _ g 1 _ _ v1 s0
  simp only [List.setIfInBounds_toArray, List.set_cons_zero, List.set_cons_succ] at s1
  have s2 := heap_setCell_same _ g 2 _ _ v2 s1
  simp only [List.setIfInBounds_toArray, List.set_cons_zero, List.set_cons_succ] at s2
  have s3 := heap_setCell_same _ g 3 _ _ v3 s2
  simp only [List.setIfInBounds_toArray, List.set_cons_zero, List.set_cons_succ] at s3
  have s4 := heap_setCell_same _ g 4 _ _ v4 s3
  simp only [List.setIfInBounds_toArray, List.set_cons_zero, List.set_cons_succ] at s4
  have s5 := heap_setCell_same _ g 5 _ _ v5 s4
  simp only [List.setIfInBounds_toArray, List.set_cons_zero, List.set_cons_succ] at s5
  have s6 := heap_setCell_same _ g 6 _ _ v6 s5
  simp only [List.setIfInBounds_toArray, List.set_cons_zero, List.set_cons_succ] at s6
  have s7 := heap_setCell_same _ g 7 _ _ v7 s6
  simp only [List.setIfInBounds_toArray, List.set_cons_zero, List.set_cons_succ] at s7
  have s8 := heap_setCell_same _ g 8 _ _ v8 s7
  simp only [List.setIfInBounds_toArray, List.set_cons_zero, List.set_cons_succ] at s8
  have s9 := heap_setCell_same _ g 9 _ _ v9 s8
  simp only [List.setIfInBounds_toArray, List.set_cons_zero, List.set_cons_succ] at s9
  have s10 := heap_setCell_same _ g 10 _ _ v10 s9
  simp only [List.setIfInBounds_toArray, List.set_cons_zero, List.set_cons_succ] at s10
  have c0 := (Chg.refl (fun i => i = g) w).set g 0 v0 (fun _ => rfl)
  have c1 := c0.set g 1 v1 (fun _ => rfl)
  have c2 := c1.set g 2 v2 (fun _ => rfl)
  have c3 := c2.set g 3 v3 (fun _ => rfl)
  have c4 := c3.set g 4 v4 (fun _ => rfl)
  have c5 := c4.set g 5 v5 (fun _ => rfl)
  have c6 := c5.set g 6 v6 (fun _ => rfl)
  have c7 := c6.set g 7 v7 (fun _ => rfl)
  have c8 := c7.set g 8 v8 (fun _ => rfl)
  have c9 := c8.set g 9 v9 (fun _ => rfl)
  have c10 := c9.set g 10 v10 (fun _ => rfl)
  exact ⟨s10, c10⟩
end

/-! ### what it is -/
def rightD (s : ByteArray) : Bool := decide (s.size = 32)
def bodyL (x : Fr) : List UInt8 :=
  if x.k = 1 then be 4 x.v ++ be 2 (u64n x.n) ++ be 1 (u64n x.f) ++ bl x.d
  else if x.k = 2 then be 1 (u64n x.c)
  else if x.k = 3 ∨ x.k = 5 then be 2 (u64n x.i)
  else if x.k = 4 then be 2 (u64n x.i) ++ be 1 (u64n x.l.length) ++ x.l.flatMap bl
  else if x.k = 6 then be 2 (u64n x.i) ++ bl x.d
  else []
def bodyW (x : Fr) : Bool :=
  if x.k = 1 then numBad 2 x.n || numBad 1 x.f || !rightD x.d
  else if x.k = 2 then numBad 1 x.c
  else if x.k = 3 ∨ x.k = 5 then numBad 2 x.i
  else if x.k = 4 then numBad 2 x.i || numBad 1 x.l.length || decide (4 < x.l.length) || x.l.any (fun s => !rightD s)
  else if x.k = 6 then numBad 2 x.i || !rightS x.d
  else decide (x.k ≠ 7)
def told (x : Fr) : Fr :=
  if x.k = 1 then ⟨x.k, x.s, x.e, x.q, x.v, x.n, x.f, 0, 0, x.d, []⟩
  else if x.k = 2 then ⟨x.k, x.s, x.e, x.q, 0, 0, 0, 0, x.c, ⟨#[]⟩, []⟩
  else if x.k = 3 ∨ x.k = 5 then ⟨x.k, x.s, x.e, x.q, 0, 0, 0, x.i, 0, ⟨#[]⟩, []⟩
  else if x.k = 4 then ⟨x.k, x.s, x.e, x.q, 0, 0, 0, x.i, 0, ⟨#[]⟩, x.l⟩
  else if x.k = 6 then ⟨x.k, x.s, x.e, x.q, 0, 0, 0, x.i, 0, x.d, []⟩
  else ⟨x.k, x.s, x.e, x.q, 0, 0, 0, 0, 0, ⟨#[]⟩, []⟩
def tA (x : Fr) (A : Option Addr) : Option Addr := if x.k = 4 then A else none
def tC (x : Fr) (c : Nat) : Nat := if x.k = 4 then c else 0

/-- Its numbers are of their kinds. -/
def FrOk (x : Fr) : Prop := x.s < 18446744073709551616 ∧ x.e < 18446744073709551616 ∧ x.q < 4294967296 ∧ x.v < 4294967296
theorem wrap64_nat {n : Nat} (h : n < 18446744073709551616) : IntKind.u64.wrap (n : Int) = (n : Int) := by
  unfold IntKind.wrap
  simp [IntKind.signed, IntKind.bits]
  omega
theorem FrOk.v64 {x : Fr} (h : FrOk x) : x.v < 18446744073709551616 := by unfold FrOk at h; omega
theorem FrOk.q64 {x : Fr} (h : FrOk x) : x.q < 18446744073709551616 := by unfold FrOk at h; omega
/-- The writer's bytes were put anew. -/
theorem IsW.put {w w1 : World} {g : Nat} {A A' : Option Addr} {c c' : Nat} {L M : List UInt8} {b : Bool} (h : IsW w g A c L b) (ho : OwnB w1 w.heap.size A' c' (L ++ M)) (hb : Below w.heap.size w w1) :
    WPost w g A (L ++ M) b (w1.setCell ⟨g, 0, none⟩ (.slice A' (L ++ M).length c')) ∧ w1.cell? ⟨g, 0, none⟩ = some (.slice A L.length c) ∧ w1.frozen? ⟨g, 0, none⟩ = false := by
  obtain ⟨hr, hge⟩ := BRow.of_own ho
  have hW1 := h.below hb
  have hgl := h.lt
  have hcells := cells2 hW1.cell
  exact ⟨⟨A', c', hW1.setL hr (fun e => by have := hge g e; omega), (Chg.of_below (F := WF g A) hb).trans ((Chg.refl (fun i => i = g) w1).set g 0 _ (fun _ => rfl)) (fun i _ e => .inl e), fun k hk => .inr (hge k hk)⟩, hcells.1, hcells.2.2.1⟩

/-- In the midst of a body: the writer; the blocks of the frame, of what is handed back, of what is told. -/
structure BA (w : World) (g : Nat) (A0 : Option Addr) (x : Fr) (A : Option Addr) (c : Nat) (w' : World) (A' : Option Addr) (c' : Nat) (L : List UInt8) (b : Bool) (cs : Array Value) : Prop where
  wr : IsW w' g A' c' L b
  chg : Chg (WF g A0) w w'
  new : ∀ k, blk A' = some k → blk A0 = some k ∨ w.heap.size + 2 < k
  g0 : w'.heap[w.heap.size]? = some (.cells (x.cells A c) 58 (0, 0))
  g1 : ∃ u0 u1 u2 u3 u4 u5 u6 u7 u8 u9 u10, w'.heap[w.heap.size + 1]? = some (.cells #[u0, u1, u2, u3, u4, u5, u6, u7, u8, u9, u10] 58 (0, 0))
  g2 : w'.heap[w.heap.size + 1 + 1]? = some (.cells cs 58 (0, 0))
section
variable {w w1 w2 : World} {g : Nat} {A0 A A1 : Option Addr} {x : Fr} {c c1 : Nat} {L L2 : List UInt8} {b b2 : Bool} {cs : Array Value}
theorem BA.size (h : BA w g A0 x A c w1 A1 c1 L b cs) : w.heap.size + 2 < w1.heap.size := by have := (Array.getElem?_eq_some_iff.1 h.g2).1; omega
theorem BA.away (h0 : IsW w g A0 c1 L b) : g < w.heap.size ∧ ∀ k, blk A0 = some k → k < w.heap.size := ⟨h0.lt, fun k hk => h0.row.lt hk⟩
/-- The writer took a step. -/
theorem BA.step (h : BA w g A0 x A c w1 A1 c1 L b cs) (hg : g < w.heap.size) (hA : ∀ k, blk A0 = some k → k < w.heap.size) (hp : WPost w1 g A1 L2 b2 w2) : ∃ A2 c2, BA w g A0 x A c w2 A2 c2 L2 b2 cs := by
  obtain ⟨A2, c2, h2, hc, hk⟩ := hp
  have hs := h.size
  have hno : ∀ j, j ≤ 2 → ¬ WF g A1 (w.heap.size + j) := fun j hj e => by
    rcases e with e | e
    · omega
    · rcases h.new _ e with h1 | h1
      · have := hA _ h1; omega
      · omega
  refine ⟨A2, c2, h2, h.chg.trans hc (fun i hi hf => ?_), fun k e => ?_, (hc.block _ (by omega) (hno 0 (by omega))).trans h.g0, ?_, (hc.block _ (by omega) (hno 2 (by omega))).trans h.g2⟩
  · rcases hf with hf | hf
    · exact .inl hf
    · rcases h.new i hf with h3 | h3
      · exact .inr h3
      · omega
  · rcases hk k e with h3 | h3
    · exact h.new k h3
    · right; omega
  · obtain ⟨u0, u1, u2, u3, u4, u5, u6, u7, u8, u9, u10, hu⟩ := h.g1
    exact ⟨u0, u1, u2, u3, u4, u5, u6, u7, u8, u9, u10, (hc.block _ (by omega) (hno 1 (by omega))).trans hu⟩
/-- Nothing happened but in new blocks. -/
theorem BA.below (h : BA w g A0 x A c w1 A1 c1 L b cs) (hb : Below w1.heap.size w1 w2) : BA w g A0 x A c w2 A1 c1 L b cs := by
  have hs := h.size
  obtain ⟨u0, u1, u2, u3, u4, u5, u6, u7, u8, u9, u10, hu⟩ := h.g1
  exact ⟨h.wr.below hb, h.chg.trans (G := fun _ => False) (.of_below hb) (fun _ _ f => f.elim), h.new, (hb.block _ (by omega)).trans h.g0, ⟨u0, u1, u2, u3, u4, u5, u6, u7, u8, u9, u10, (hb.block _ (by omega)).trans hu⟩, (hb.block _ (by omega)).trans h.g2⟩
/-- One cell of what is told. -/
theorem BA.set (h : BA w g A0 x A c w1 A1 c1 L b cs) (hg : g < w.heap.size) (hA : ∀ k, blk A0 = some k → k < w.heap.size) (j : Nat) (v : Value) : BA w g A0 x A c (w1.setCell ⟨w.heap.size + 1 + 1, j, none⟩ v) A1 c1 L b (cs.setIfInBounds j v) := by
  have hs := h.size
  have hc : Chg (fun i => i = w.heap.size + 1 + 1) w1 (w1.setCell ⟨w.heap.size + 1 + 1, j, none⟩ v) := (Chg.refl _ _).set _ j v (fun _ => rfl)
  obtain ⟨u0, u1, u2, u3, u4, u5, u6, u7, u8, u9, u10, hu⟩ := h.g1
  refine ⟨h.wr.chg hc (fun i hi e => ?_), h.chg.trans hc (fun i hi e => by omega), h.new, (hc.block _ (by omega) (by omega)).trans h.g0, ⟨u0, u1, u2, u3, u4, u5, u6, u7, u8, u9, u10, (hc.block _ (by omega) (by omega)).trans hu⟩, heap_setCell_same w1 _ j _ _ v h.g2⟩
  rcases hi with hi | hi
  · omega
  · rcases h.new _ hi with h1 | h1
    · have := hA _ h1; omega
    · omega
/-- The end: what is told is handed back. -/
theorem BA.fin (h : BA w g A0 x A c w1 A1 c1 L b cs) (hg : g < w.heap.size) (hA : ∀ k, blk A0 = some k → k < w.heap.size) (hc : Chg (fun i => i = w.heap.size + 1) w1 w2) : WPost w g A0 L b w2 := by
  have hs := h.size
  refine ⟨A1, c1, h.wr.chg hc (fun i hi e => ?_), h.chg.trans hc (fun i hi e => by omega), fun k hk => (h.new k hk).imp id (fun e => by omega)⟩
  rcases hi with hi | hi
  · omega
  · rcases h.new _ hi with h1 | h1
    · have := hA _ h1; omega
    · omega
end
theorem BA.start {w : World} {g : Nat} {A0 : Option Addr} {c0 : Nat} {L : List UInt8} {b : Bool} (h : IsW w g A0 c0 L b) (x : Fr) (A : Option Addr) (c : Nat) (cs1 cs2 : Array Value) (h1 : ∃ u0 u1 u2 u3 u4 u5 u6 u7 u8 u9 u10, cs1 = #[u0, u1, u2, u3, u4, u5, u6, u7, u8, u9, u10]) :
    BA w g A0 x A c (((w.alloc (.cells (x.cells A c) 58)).alloc (.cells cs1 58)).alloc (.cells cs2 58)) A0 c0 L b cs2 := by
  obtain ⟨hb, g0, g1, g2, _⟩ := alloc3 w (x.cells A c) 58 cs1 58 cs2 58
  obtain ⟨u0, u1, u2, u3, u4, u5, u6, u7, u8, u9, u10, rfl⟩ := h1
  exact ⟨h.below hb, .of_below hb, fun k hk => .inl hk, g0, ⟨u0, u1, u2, u3, u4, u5, u6, u7, u8, u9, u10, g1⟩, g2⟩
end Go.Proofs.Ytebcginnnjigjaa

end
section
/- The reference's frames: what is told; whether two are alike. -/
open Go.RowKit
namespace Go.Proofs.Ytebcginnnjigjaa
set_option maxHeartbeats 2000000 in
set_option maxRecDepth 100000 in
theorem refTold_any (w : World) (x : Fr) (A : Option Addr) (c : Nat) (h17 : x.k = 1 ∨ x.k = 2 ∨ x.k = 3 ∨ x.k = 4 ∨ x.k = 5 ∨ x.k = 6 ∨ x.k = 7) :
    Calls Try.prog 73 #[.agg (x.cells A c)] w fun e w' => e = .returned (.agg ((told x).cells (tA x A) (tC x c))) ∧ Below w.heap.size w w' := by
  obtain ⟨k, s, e, q, v, n, f, i, cd, d, l⟩ := x
  simp only at h17
  rcases h17 with rfl | rfl | rfl | rfl | rfl | rfl | rfl
  · rw [show (told ⟨1, s, e, q, v, n, f, i, cd, d, l⟩).cells (tA ⟨1, s, e, q, v, n, f, i, cd, d, l⟩ A) (tC ⟨1, s, e, q, v, n, f, i, cd, d, l⟩ c) = #[.int .i64 1, .int .u64 (s : Int), .int .u64 (e : Int), .int .u32 (q : Int), .int .u32 (v : Int), .int .i64 n, .int .i64 f, .int .i64 0, .int .i64 0, .string d, .slice none 0 0] from rfl]
    unfold Fr.cells
    simp only
    go_enter Try.func73, Try.ntmps73
    go_wp2_with fail
    obtain ⟨hb, _, hg, _⟩ := alloc3 w #[.int .i64 1, .int .u64 (s : Int), .int .u64 (e : Int), .int .u32 (q : Int), .int .u32 (v : Int), .int .i64 n, .int .i64 f, .int .i64 i, .int .i64 cd, .string d, .slice A l.length c] 58 #[.int .i64 1, .int .u64 (s : Int), .int .u64 (e : Int), .int .u32 (q : Int), .int .u32 (v : Int), .int .i64 n, .int .i64 f, .int .i64 0, .int .i64 0, .string d, .slice none 0 0] 58 #[.int .i64 1, .int .u64 (s : Int), .int .u64 (e : Int), .int .u32 (q : Int), .int .u32 (v : Int), .int .i64 n, .int .i64 f, .int .i64 0, .int .i64 0, .string d, .slice none 0 0] 58
    exact bodyPost_ret (results_cell_row rfl _ _ (w.heap.size + 1) _ _ _ _ rfl hg Try.underlying58 rfl (by kernel_rfl)) rfl ⟨rfl, hb⟩
  · rw [show (told ⟨2, s, e, q, v, n, f, i, cd, d, l⟩).cells (tA ⟨2, s, e, q, v, n, f, i, cd, d, l⟩ A) (tC ⟨2, s, e, q, v, n, f, i, cd, d, l⟩ c) = #[.int .i64 2, .int .u64 (s : Int), .int .u64 (e : Int), .int .u32 (q : Int), .int .u32 0, .int .i64 0, .int .i64 0, .int .i64 0, .int .i64 cd, .string ⟨#[]⟩, .slice none 0 0] from rfl]
    unfold Fr.cells
    simp only
    go_enter Try.func73, Try.ntmps73
    go_wp2_with fail
    obtain ⟨hb, _, hg, _⟩ := alloc3 w #[.int .i64 2, .int .u64 (s : Int), .int .u64 (e : Int), .int .u32 (q : Int), .int .u32 (v : Int), .int .i64 n, .int .i64 f, .int .i64 i, .int .i64 cd, .string d, .slice A l.length c] 58 #[.int .i64 2, .int .u64 (s : Int), .int .u64 (e : Int), .int .u32 (q : Int), .int .u32 0, .int .i64 0, .int .i64 0, .int .i64 0, .int .i64 cd, .string ⟨#[]⟩, .slice none 0 0] 58 #[.int .i64 2, .int .u64 (s : Int), .int .u64 (e : Int), .int .u32 (q : Int), .int .u32 0, .int .i64 0, .int .i64 0, .int .i64 0, .int .i64 cd, .string ⟨#[]⟩, .slice none 0 0] 58
    exact bodyPost_ret (results_cell_row rfl _ _ (w.heap.size + 1) _ _ _ _ rfl hg Try.underlying58 rfl (by kernel_rfl)) rfl ⟨rfl, hb⟩
  · rw [show (told ⟨3, s, e, q, v, n, f, i, cd, d, l⟩).cells (tA ⟨3, s, e, q, v, n, f, i, cd, d, l⟩ A) (tC ⟨3, s, e, q, v, n, f, i, cd, d, l⟩ c) = #[.int .i64 3, .int .u64 (s : Int), .int .u64 (e : Int), .int .u32 (q : Int), .int .u32 0, .int .i64 0, .int .i64 0, .int .i64 i, .int .i64 0, .string ⟨#[]⟩, .slice none 0 0] from rfl]
    unfold Fr.cells
    simp only
    go_enter Try.func73, Try.ntmps73
    go_wp2_with fail
    obtain ⟨hb, _, hg, _⟩ := alloc3 w #[.int .i64 3, .int .u64 (s : Int), .int .u64 (e : Int), .int .u32 (q : Int), .int .u32 (v : Int), .int .i64 n, .int .i64 f, .int .i64 i, .int .i64 cd, .string d, .slice A l.length c] 58 #[.int .i64 3, .int .u64 (s : Int), .int .u64 (e : Int), .int .u32 (q : Int), .int .u32 0, .int .i64 0, .int .i64 0, .int .i64 i, .int .i64 0, .string ⟨#[]⟩, .slice none 0 0] 58 #[.int .i64 3, .int .u64 (s : Int), .int .u64 (e : Int), .int .u32 (q : Int), .int .u32 0, .int .i64 0, .int .i64 0, .int .i64 i, .int .i64 0, .string ⟨#[]⟩, .slice none 0 0] 58
    exact bodyPost_ret (results_cell_row rfl _ _ (w.heap.size + 1) _ _ _ _ rfl hg Try.underlying58 rfl (by kernel_rfl)) rfl ⟨rfl, hb⟩
  · rw [show (told ⟨4, s, e, q, v, n, f, i, cd, d, l⟩).cells (tA ⟨4, s, e, q, v, n, f, i, cd, d, l⟩ A) (tC ⟨4, s, e, q, v, n, f, i, cd, d, l⟩ c) = #[.int .i64 4, .int .u64 (s : Int), .int .u64 (e : Int), .int .u32 (q : Int), .int .u32 0, .int .i64 0, .int .i64 0, .int .i64 i, .int .i64 0, .string ⟨#[]⟩, .slice A l.length c] from rfl]
    unfold Fr.cells
    simp only
    go_enter Try.func73, Try.ntmps73
    go_wp2_with fail
    obtain ⟨hb, _, hg, _⟩ := alloc3 w #[.int .i64 4, .int .u64 (s : Int), .int .u64 (e : Int), .int .u32 (q : Int), .int .u32 (v : Int), .int .i64 n, .int .i64 f, .int .i64 i, .int .i64 cd, .string d, .slice A l.length c] 58 #[.int .i64 4, .int .u64 (s : Int), .int .u64 (e : Int), .int .u32 (q : Int), .int .u32 0, .int .i64 0, .int .i64 0, .int .i64 i, .int .i64 0, .string ⟨#[]⟩, .slice A l.length c] 58 #[.int .i64 4, .int .u64 (s : Int), .int .u64 (e : Int), .int .u32 (q : Int), .int .u32 0, .int .i64 0, .int .i64 0, .int .i64 i, .int .i64 0, .string ⟨#[]⟩, .slice A l.length c] 58
    exact bodyPost_ret (results_cell_row rfl _ _ (w.heap.size + 1) _ _ _ _ rfl hg Try.underlying58 rfl (by kernel_rfl)) rfl ⟨rfl, hb⟩
  · rw [show (told ⟨5, s, e, q, v, n, f, i, cd, d, l⟩).cells (tA ⟨5, s, e, q, v, n, f, i, cd, d, l⟩ A) (tC ⟨5, s, e, q, v, n, f, i, cd, d, l⟩ c) = #[.int .i64 5, .int .u64 (s : Int), .int .u64 (e : Int), .int .u32 (q : Int), .int .u32 0, .int .i64 0, .int .i64 0, .int .i64 i, .int .i64 0, .string ⟨#[]⟩, .slice none 0 0] from rfl]
    unfold Fr.cells
    simp only
    go_enter Try.func73, Try.ntmps73
    go_wp2_with fail
    obtain ⟨hb, _, hg, _⟩ := alloc3 w #[.int .i64 5, .int .u64 (s : Int), .int .u64 (e : Int), .int .u32 (q : Int), .int .u32 (v : Int), .int .i64 n, .int .i64 f, .int .i64 i, .int .i64 cd, .string d, .slice A l.length c] 58 #[.int .i64 5, .int .u64 (s : Int), .int .u64 (e : Int), .int .u32 (q : Int), .int .u32 0, .int .i64 0, .int .i64 0, .int .i64 i, .int .i64 0, .string ⟨#[]⟩, .slice none 0 0] 58 #[.int .i64 5, .int .u64 (s : Int), .int .u64 (e : Int), .int .u32 (q : Int), .int .u32 0, .int .i64 0, .int .i64 0, .int .i64 i, .int .i64 0, .string ⟨#[]⟩, .slice none 0 0] 58
    exact bodyPost_ret (results_cell_row rfl _ _ (w.heap.size + 1) _ _ _ _ rfl hg Try.underlying58 rfl (by kernel_rfl)) rfl ⟨rfl, hb⟩
  · rw [show (told ⟨6, s, e, q, v, n, f, i, cd, d, l⟩).cells (tA ⟨6, s, e, q, v, n, f, i, cd, d, l⟩ A) (tC ⟨6, s, e, q, v, n, f, i, cd, d, l⟩ c) = #[.int .i64 6, .int .u64 (s : Int), .int .u64 (e : Int), .int .u32 (q : Int), .int .u32 0, .int .i64 0, .int .i64 0, .int .i64 i, .int .i64 0, .string d, .slice none 0 0] from rfl]
    unfold Fr.cells
    simp only
    go_enter Try.func73, Try.ntmps73
    go_wp2_with fail
    obtain ⟨hb, _, hg, _⟩ := alloc3 w #[.int .i64 6, .int .u64 (s : Int), .int .u64 (e : Int), .int .u32 (q : Int), .int .u32 (v : Int), .int .i64 n, .int .i64 f, .int .i64 i, .int .i64 cd, .string d, .slice A l.length c] 58 #[.int .i64 6, .int .u64 (s : Int), .int .u64 (e : Int), .int .u32 (q : Int), .int .u32 0, .int .i64 0, .int .i64 0, .int .i64 i, .int .i64 0, .string d, .slice none 0 0] 58 #[.int .i64 6, .int .u64 (s : Int), .int .u64 (e : Int), .int .u32 (q : Int), .int .u32 0, .int .i64 0, .int .i64 0, .int .i64 i, .int .i64 0, .string d, .slice none 0 0] 58
    exact bodyPost_ret (results_cell_row rfl _ _ (w.heap.size + 1) _ _ _ _ rfl hg Try.underlying58 rfl (by kernel_rfl)) rfl ⟨rfl, hb⟩
  · rw [show (told ⟨7, s, e, q, v, n, f, i, cd, d, l⟩).cells (tA ⟨7, s, e, q, v, n, f, i, cd, d, l⟩ A) (tC ⟨7, s, e, q, v, n, f, i, cd, d, l⟩ c) = #[.int .i64 7, .int .u64 (s : Int), .int .u64 (e : Int), .int .u32 (q : Int), .int .u32 0, .int .i64 0, .int .i64 0, .int .i64 0, .int .i64 0, .string ⟨#[]⟩, .slice none 0 0] from rfl]
    unfold Fr.cells
    simp only
    go_enter Try.func73, Try.ntmps73
    go_wp2_with fail
    obtain ⟨hb, _, hg, _⟩ := alloc3 w #[.int .i64 7, .int .u64 (s : Int), .int .u64 (e : Int), .int .u32 (q : Int), .int .u32 (v : Int), .int .i64 n, .int .i64 f, .int .i64 i, .int .i64 cd, .string d, .slice A l.length c] 58 #[.int .i64 7, .int .u64 (s : Int), .int .u64 (e : Int), .int .u32 (q : Int), .int .u32 0, .int .i64 0, .int .i64 0, .int .i64 0, .int .i64 0, .string ⟨#[]⟩, .slice none 0 0] 58 #[.int .i64 7, .int .u64 (s : Int), .int .u64 (e : Int), .int .u32 (q : Int), .int .u32 0, .int .i64 0, .int .i64 0, .int .i64 0, .int .i64 0, .string ⟨#[]⟩, .slice none 0 0] 58
    exact bodyPost_ret (results_cell_row rfl _ _ (w.heap.size + 1) _ _ _ _ rfl hg Try.underlying58 rfl (by kernel_rfl)) rfl ⟨rfl, hb⟩
theorem alikeB_no {x y : Fr} (h : x ≠ y) : alikeB x y = false := by
  rw [Bool.eq_false_iff]
  exact fun e => h ((alikeB_iff x y).1 e)
theorem alikeB_yes (x : Fr) : alikeB x x = true := (alikeB_iff x x).2 rfl
set_option maxHeartbeats 4000000 in
set_option maxRecDepth 100000 in
theorem refAlike_any (x y : Fr) (A B : Option Addr) (c d : Nat) (w : World) (hr : Reads w 1 A x.l.length (sts x.l)) (hs : Reads w 1 B y.l.length (sts y.l)) (hl : x.l.length ≤ 2000000) :
    Calls Try.prog 28 #[.agg (x.cells A c), .agg (y.cells B d)] w fun e w' => e = .returned (.bool (alikeB x y)) ∧ Below w.heap.size w w' := by
  obtain ⟨k, s, e, q, v, n, f, i, cd, dd, l⟩ := x
  obtain ⟨k2, s2, e2, q2, v2, n2, f2, i2, cd2, dd2, l2⟩ := y
  obtain ⟨hb, hg1, hg2, _⟩ := alloc2 w (Fr.cells ⟨k, s, e, q, v, n, f, i, cd, dd, l⟩ A c) 58 (Fr.cells ⟨k2, s2, e2, q2, v2, n2, f2, i2, cd2, dd2, l2⟩ B d) 58
  have Hr := Lib.hid (hr.below hb)
  have Hs := Lib.hid (hs.below hb)
  have HBl := Lib.hid hb
  have HL := Lib.hid hl
  unfold Fr.cells at hb Hr Hs HBl ⊢
  clear hr hs hb hl hg1 hg2
  simp only at Hr Hs HL HBl ⊢
  by_cases h0 : k = k2
  rotate_left
  · have HD := Lib.hid (alikeB_no (x := ⟨k, s, e, q, v, n, f, i, cd, dd, l⟩) (y := ⟨k2, s2, e2, q2, v2, n2, f2, i2, cd2, dd2, l2⟩) (fun e => h0 (by injection e)))
    have hb0 : (k == k2) = false := by rw [beq_eq_false_iff_ne]; exact h0
    clear h0
    go_enter Try.func28, Try.ntmps28
    go_wp2_with fail
    go_ret
    exact ⟨by rw [HD.out]; rfl, HBl.out⟩
  have hb0 : (k == k2) = true := by rw [h0]; exact beq_self_eq_true _
  have HE0 := Lib.hid h0
  clear h0
  by_cases h1 : s = s2
  rotate_left
  · have HD := Lib.hid (alikeB_no (x := ⟨k, s, e, q, v, n, f, i, cd, dd, l⟩) (y := ⟨k2, s2, e2, q2, v2, n2, f2, i2, cd2, dd2, l2⟩) (fun e => h1 (by injection e)))
    have hb1 : ((s : Int) == (s2 : Int)) = false := by rw [beq_eq_false_iff_ne]; omega
    clear h1
    go_enter Try.func28, Try.ntmps28
    go_wp2_with fail
    go_ret
    exact ⟨by rw [HD.out]; rfl, HBl.out⟩
  have hb1 : ((s : Int) == (s2 : Int)) = true := by rw [h1]; exact beq_self_eq_true _
  have HE1 := Lib.hid h1
  clear h1
  by_cases h2 : e = e2
  rotate_left
  · have HD := Lib.hid (alikeB_no (x := ⟨k, s, e, q, v, n, f, i, cd, dd, l⟩) (y := ⟨k2, s2, e2, q2, v2, n2, f2, i2, cd2, dd2, l2⟩) (fun e => h2 (by injection e)))
    have hb2 : ((e : Int) == (e2 : Int)) = false := by rw [beq_eq_false_iff_ne]; omega
    clear h2
    go_enter Try.func28, Try.ntmps28
    go_wp2_with fail
    go_ret
    exact ⟨by rw [HD.out]; rfl, HBl.out⟩
  have hb2 : ((e : Int) == (e2 : Int)) = true := by rw [h2]; exact beq_self_eq_true _
  have HE2 := Lib.hid h2
  clear h2
  by_cases h3 : q = q2
  rotate_left
  · have HD := Lib.hid (alikeB_no (x := ⟨k, s, e, q, v, n, f, i, cd, dd, l⟩) (y := ⟨k2, s2, e2, q2, v2, n2, f2, i2, cd2, dd2, l2⟩) (fun e => h3 (by injection e)))
    have hb3 : ((q : Int) == (q2 : Int)) = false := by rw [beq_eq_false_iff_ne]; omega
    clear h3
    go_enter Try.func28, Try.ntmps28
    go_wp2_with fail
    go_ret
    exact ⟨by rw [HD.out]; rfl, HBl.out⟩
  have hb3 : ((q : Int) == (q2 : Int)) = true := by rw [h3]; exact beq_self_eq_true _
  have HE3 := Lib.hid h3
  clear h3
  by_cases h4 : v = v2
  rotate_left
  · have HD := Lib.hid (alikeB_no (x := ⟨k, s, e, q, v, n, f, i, cd, dd, l⟩) (y := ⟨k2, s2, e2, q2, v2, n2, f2, i2, cd2, dd2, l2⟩) (fun e => h4 (by injection e)))
    have hb4 : ((v : Int) == (v2 : Int)) = false := by rw [beq_eq_false_iff_ne]; omega
    clear h4
    go_enter Try.func28, Try.ntmps28
    go_wp2_with fail
    go_ret
    exact ⟨by rw [HD.out]; rfl, HBl.out⟩
  have hb4 : ((v : Int) == (v2 : Int)) = true := by rw [h4]; exact beq_self_eq_true _
  have HE4 := Lib.hid h4
  clear h4
  by_cases h5 : n = n2
  rotate_left
  · have HD := Lib.hid (alikeB_no (x := ⟨k, s, e, q, v, n, f, i, cd, dd, l⟩) (y := ⟨k2, s2, e2, q2, v2, n2, f2, i2, cd2, dd2, l2⟩) (fun e => h5 (by injection e)))
    have hb5 : (n == n2) = false := by rw [beq_eq_false_iff_ne]; exact h5
    clear h5
    go_enter Try.func28, Try.ntmps28
    go_wp2_with fail
    go_ret
    exact ⟨by rw [HD.out]; rfl, HBl.out⟩
  have hb5 : (n == n2) = true := by rw [h5]; exact beq_self_eq_true _
  have HE5 := Lib.hid h5
  clear h5
  by_cases h6 : f = f2
  rotate_left
  · have HD := Lib.hid (alikeB_no (x := ⟨k, s, e, q, v, n, f, i, cd, dd, l⟩) (y := ⟨k2, s2, e2, q2, v2, n2, f2, i2, cd2, dd2, l2⟩) (fun e => h6 (by injection e)))
    have hb6 : (f == f2) = false := by rw [beq_eq_false_iff_ne]; exact h6
    clear h6
    go_enter Try.func28, Try.ntmps28
    go_wp2_with fail
    go_ret
    exact ⟨by rw [HD.out]; rfl, HBl.out⟩
  have hb6 : (f == f2) = true := by rw [h6]; exact beq_self_eq_true _
  have HE6 := Lib.hid h6
  clear h6
  by_cases h7 : i = i2
  rotate_left
  · have HD := Lib.hid (alikeB_no (x := ⟨k, s, e, q, v, n, f, i, cd, dd, l⟩) (y := ⟨k2, s2, e2, q2, v2, n2, f2, i2, cd2, dd2, l2⟩) (fun e => h7 (by injection e)))
    have hb7 : (i == i2) = false := by rw [beq_eq_false_iff_ne]; exact h7
    clear h7
    go_enter Try.func28, Try.ntmps28
    go_wp2_with fail
    go_ret
    exact ⟨by rw [HD.out]; rfl, HBl.out⟩
  have hb7 : (i == i2) = true := by rw [h7]; exact beq_self_eq_true _
  have HE7 := Lib.hid h7
  clear h7
  by_cases h8 : cd = cd2
  rotate_left
  · have HD := Lib.hid (alikeB_no (x := ⟨k, s, e, q, v, n, f, i, cd, dd, l⟩) (y := ⟨k2, s2, e2, q2, v2, n2, f2, i2, cd2, dd2, l2⟩) (fun e => h8 (by injection e)))
    have hb8 : (cd == cd2) = false := by rw [beq_eq_false_iff_ne]; exact h8
    clear h8
    go_enter Try.func28, Try.ntmps28
    go_wp2_with fail
    go_ret
    exact ⟨by rw [HD.out]; rfl, HBl.out⟩
  have hb8 : (cd == cd2) = true := by rw [h8]; exact beq_self_eq_true _
  have HE8 := Lib.hid h8
  clear h8
  by_cases h9 : dd = dd2
  rotate_left
  · have HD := Lib.hid (alikeB_no (x := ⟨k, s, e, q, v, n, f, i, cd, dd, l⟩) (y := ⟨k2, s2, e2, q2, v2, n2, f2, i2, cd2, dd2, l2⟩) (fun e => h9 (by injection e)))
    have hb9 : (dd.toList == dd2.toList) = false := by rw [beq_eq_false_iff_ne]; exact fun e => h9 (toList_inj e)
    clear h9
    go_enter Try.func28, Try.ntmps28
    go_wp2_with fail
    go_ret
    exact ⟨by rw [HD.out]; rfl, HBl.out⟩
  have hb9 : (dd.toList == dd2.toList) = true := by rw [h9]; exact beq_self_eq_true _
  have HE9 := Lib.hid h9
  clear h9
  go_enter Try.func28, Try.ntmps28
  go_wp2_with fail
  refine (texts12_any A B l l2 c d _ Hr.out Hs.out HL.out).mono ?_
  rintro e w1 ⟨rfl, hb2⟩
  have HB2 := Lib.hid (HBl.out.trans (hb2.mono HBl.out.size))
  clear hb2
  go_wp2_with fail
  go_ret
  refine ⟨?_, HB2.out⟩
  obtain ⟨e0, e1, e2, e3, e4, e5, e6, e7, e8, e9⟩ := And.intro HE0.out (And.intro HE1.out (And.intro HE2.out (And.intro HE3.out (And.intro HE4.out (And.intro HE5.out (And.intro HE6.out (And.intro HE7.out (And.intro HE8.out HE9.out))))))))
  subst e0 e1 e2 e3 e4 e5 e6 e7 e8 e9
  show Ending.returned (Value.bool (decide (l = l2))) = _
  refine congrArg (fun b => Ending.returned (.bool b)) ?_
  rw [Bool.eq_iff_iff, alikeB_iff, decide_eq_true_iff]
  simp
end Go.Proofs.Ytebcginnnjigjaa

end
