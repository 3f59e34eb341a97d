/- Frames: a body that grows. -/
import Derived.Test.YtcahflddafdhfaaFr1
import Derived.Test.YtcahflddafdhfaaAppStr
import Derived.Test.YtcahflddafdhfaaWord
open Go.RowKit
namespace Go.Proofs.Ytcahflddafdhfaa

/-- Block g is a writer: its bytes lie at A. -/
structure IsW (w : World) (g : Nat) (A : Option Addr) (c : Nat) (L : List UInt8) (b : Bool) : Prop where
  cell : w.heap[g]? = some (.cells #[.slice A L.length c, .bool b] 70 (0, 0))
  row : BRow w A c L
  ne : blk A ≠ some g
def WF (g : Nat) (A : Option Addr) : Nat → Prop := fun i => i = g ∨ blk A = some i
/-- What a step leaves. -/
def WPost (w : World) (g : Nat) (A : Option Addr) (L : List UInt8) (b : Bool) (w' : World) : Prop := ∃ A' c', IsW w' g A' c' L b ∧ Chg (WF g A) w w' ∧ ∀ k, blk A' = some k → blk A = some k ∨ w.heap.size ≤ k
section
variable {w w1 w2 : World} {g : Nat} {A : Option Addr} {c : Nat} {L : List UInt8} {b : Bool}
theorem IsW.lt (h : IsW w g A c L b) : g < w.heap.size := (Array.getElem?_eq_some_iff.1 h.cell).1
theorem IsW.chg {F : Nat → Prop} (h : IsW w g A c L b) (hc : Chg F w w1) (hF : ∀ i, WF g A i → ¬ F i) : IsW w1 g A c L b :=
  ⟨(hc.block g h.lt (hF g (.inl rfl))).trans h.cell, h.row.chg hc (fun k hk => hF k (.inr hk)), h.ne⟩
theorem IsW.below (h : IsW w g A c L b) (hb : Below w.heap.size w w1) : IsW w1 g A c L b := h.chg (F := fun _ => False) (.of_below hb) (fun _ _ f => f)
theorem IsW.foot (h : IsW w g A c L b) : ∀ i, WF g A i → i < w.heap.size := fun i hi => by
  rcases hi with rfl | hi
  · exact h.lt
  · exact h.row.lt hi
/-- It is wrong, or not. -/
theorem IsW.setB (h : IsW w g A c L b) (b2 : Bool) : IsW (w.setCell ⟨g, 1, none⟩ (.bool b2)) g A c L b2 :=
  ⟨heap_setCell_same w g 1 _ _ _ h.cell, h.row.chg (F := fun i => i = g) ((Chg.refl _ _).set g 1 _ (fun _ => rfl)) (fun k hk e => h.ne (e ▸ hk)), h.ne⟩
/-- Its bytes are others. -/
theorem IsW.setL {A' : Option Addr} {c' : Nat} {L' : List UInt8} (h : IsW w g A c L b) (hr : BRow w A' c' L') (hne : blk A' ≠ some g) : IsW (w.setCell ⟨g, 0, none⟩ (.slice A' L'.length c')) g A' c' L' b :=
  ⟨heap_setCell_same w g 0 _ _ _ h.cell, hr.chg (F := fun i => i = g) ((Chg.refl _ _).set g 0 _ (fun _ => rfl)) (fun k hk e => hne (e ▸ hk)), hne⟩
theorem WPost.then_ {A1 : Option Addr} {c1 : Nat} {L1 : List UInt8} {b1 : Bool} (h : IsW w1 g A1 c1 L1 b1) (hc : Chg (WF g A) w w1) (hk : ∀ k, blk A1 = some k → blk A = some k ∨ w.heap.size ≤ k) {L2 : List UInt8} {b2 : Bool} (hp : WPost w1 g A1 L2 b2 w2) : WPost w g A L2 b2 w2 := by
  obtain ⟨A2, c2, h2, hc2, hk2⟩ := hp
  have hs := hc.size
  refine ⟨A2, c2, h2, hc.trans hc2 (fun i hi hf => ?_), fun k e => ?_⟩
  · rcases hf with hf | hf
    · exact .inl hf
    · rcases hk i hf with h3 | h3
      · exact .inr h3
      · omega
  · rcases hk2 k e with h3 | h3
    · exact hk k h3
    · right; omega
end

def u64n (n : Int) : Nat := (n % 18446744073709551616).toNat
theorem u64n_lt (n : Int) : u64n n < 18446744073709551616 := by unfold u64n; omega
theorem u64n_wrap (n : Int) : IntKind.u64.wrap n = (u64n n : Int) := by
  unfold u64n IntKind.wrap
  simp [IntKind.signed, IntKind.bits]
  omega
def numBad (k : Nat) (n : Int) : Bool := decide (n < 0) || decide ((256 ^ k : Nat) ≤ n)

set_option maxHeartbeats 1000000 in
set_option maxRecDepth 100000 in
theorem frNum1_any {w : World} {g : Nat} {A : Option Addr} {c : Nat} {L : List UInt8} {b : Bool} (h : IsW w g A c L b) (n : Int) (hl : L.length + 8 ≤ 140737488355328) :
    Calls Try.prog 57 #[.pointer (some ⟨g, 0, none⟩), .int .i64 1, .int .i64 n] w fun e w' => e = .returned (.tuple #[]) ∧ WPost w g A (L ++ be 1 (u64n n)) (b || numBad 1 n) w' := by
  obtain ⟨c0, c1, f0, f1⟩ := cells2 h.cell
  have hu := u64n_wrap n
  have key : ∀ v : Bool, (b || numBad 1 n) = v → ∀ A' c' w1, OwnB w1 (w.setCell ⟨g, 1, none⟩ (.bool v)).heap.size A' c' (L ++ be 1 (u64n n)) → Below (w.setCell ⟨g, 1, none⟩ (.bool v)).heap.size (w.setCell ⟨g, 1, none⟩ (.bool v)) w1 →
      WPost w g A (L ++ be 1 (u64n n)) (b || numBad 1 n) (w1.setCell ⟨g, 0, none⟩ (.slice A' (L.length + 1) c')) ∧ (∃ u, w1.cell? ⟨g, 0, none⟩ = some u) ∧ w1.frozen? ⟨g, 0, none⟩ = false := by
    intro v hv A' c' w1 ho hb
    obtain ⟨hr, hge⟩ := BRow.of_own ho
    have hW1 := (h.setB v).below hb
    rw [size_set] at hge
    have hgl := h.lt
    have hfin := hW1.setL hr (fun e => by have := hge g e; omega)
    have el : (L ++ be 1 (u64n n)).length = L.length + 1 := by rw [List.length_append, be_length]
    rw [el] at hfin
    rw [hv]
    have hcells := cells2 hW1.cell
    refine ⟨⟨A', c', hfin, ?_, fun k hk => .inr (hge k hk)⟩, ⟨_, hcells.1⟩, hcells.2.2.1⟩
    have hc1 : Chg (WF g A) w (w.setCell ⟨g, 1, none⟩ (.bool v)) := (Chg.refl _ w).set g 1 _ (fun _ => .inl rfl)
    exact (hc1.trans (Chg.of_below (F := fun _ => False) hb) (fun _ _ f => f.elim)).trans ((Chg.refl (fun i => i = g) w1).set g 0 _ (fun _ => rfl)) (fun i _ e => .inl e)
  have Hkey := Lib.hid key
  clear key
  have hsp : (b = true) ∨ (b = false ∧ n < 0) ∨ (b = false ∧ ¬ n < 0 ∧ 256 ≤ n) ∨ (b = false ∧ ¬ n < 0 ∧ ¬ 256 ≤ n) := by
    cases b
    · by_cases h0 : n < 0
      · exact .inr (.inl ⟨rfl, h0⟩)
      · by_cases h1 : 256 ≤ n
        · exact .inr (.inr (.inl ⟨rfl, h0, h1⟩))
        · exact .inr (.inr (.inr ⟨rfl, h0, h1⟩))
    · exact .inl rfl
  rcases hsp with rfl | ⟨rfl, h0⟩ | ⟨rfl, h0, h1⟩ | ⟨rfl, h0, h1⟩
  · obtain ⟨v, hv⟩ : ∃ v, v = true := ⟨_, rfl⟩
    have Hv := Lib.hid (show (true || numBad 1 n) = true from rfl)
    have HW1 := Lib.hid (h.setB v)
    have HP := Lib.hid (put_any A L c 1 (u64n n) (u64n_lt n) _ HW1.out.row.reads hl)
    clear h
    subst hv
    go_enter Try.func57, Try.ntmps57
    go_wp2_with fail
    refine HP.out.mono ?_
    rintro e w1 ⟨A', c', rfl, ho, hb⟩
    rw [wPut_ok (wOk_true (by omega) (by omega))] at ho ⊢
    obtain ⟨k1, ⟨u, k2⟩, k3⟩ := Hkey.out _ Hv.out A' c' w1 ho hb
    have K1 := Lib.hid k1
    have el : (L ++ be (Int.toNat 1) (u64n n)).length = L.length + 1 := by rw [List.length_append, be_length]; rfl
    rw [el]
    clear ho hb k1 c0 c1 f0 f1 el
    go_wp2_with fail
    go_end0
    exact ⟨rfl, K1.out⟩
  · obtain ⟨v, hv⟩ : ∃ v, v = true := ⟨_, rfl⟩
    have Hv := Lib.hid (show (false || numBad 1 n) = true by unfold numBad; rw [decide_eq_true h0]; rfl)
    have HW1 := Lib.hid (h.setB v)
    have HP := Lib.hid (put_any A L c 1 (u64n n) (u64n_lt n) _ HW1.out.row.reads hl)
    clear h
    subst hv
    go_enter Try.func57, Try.ntmps57
    go_wp2_with fail
    refine HP.out.mono ?_
    rintro e w1 ⟨A', c', rfl, ho, hb⟩
    rw [wPut_ok (wOk_true (by omega) (by omega))] at ho ⊢
    obtain ⟨k1, ⟨u, k2⟩, k3⟩ := Hkey.out _ Hv.out A' c' w1 ho hb
    have K1 := Lib.hid k1
    have el : (L ++ be (Int.toNat 1) (u64n n)).length = L.length + 1 := by rw [List.length_append, be_length]; rfl
    rw [el]
    clear ho hb k1 c0 c1 f0 f1 el
    go_wp2_with fail
    go_end0
    exact ⟨rfl, K1.out⟩
  · obtain ⟨v, hv⟩ : ∃ v, v = true := ⟨_, rfl⟩
    have Hv := Lib.hid (show (false || numBad 1 n) = true by unfold numBad; rw [decide_eq_true (show ((256 ^ 1 : Nat) : Int) ≤ n from h1)]; simp)
    have HW1 := Lib.hid (h.setB v)
    have HP := Lib.hid (put_any A L c 1 (u64n n) (u64n_lt n) _ HW1.out.row.reads hl)
    clear h
    subst hv
    go_enter Try.func57, Try.ntmps57
    go_wp2_with fail
    refine HP.out.mono ?_
    rintro e w1 ⟨A', c', rfl, ho, hb⟩
    rw [wPut_ok (wOk_true (by omega) (by omega))] at ho ⊢
    obtain ⟨k1, ⟨u, k2⟩, k3⟩ := Hkey.out _ Hv.out A' c' w1 ho hb
    have K1 := Lib.hid k1
    have el : (L ++ be (Int.toNat 1) (u64n n)).length = L.length + 1 := by rw [List.length_append, be_length]; rfl
    rw [el]
    clear ho hb k1 c0 c1 f0 f1 el
    go_wp2_with fail
    go_end0
    exact ⟨rfl, K1.out⟩
  · obtain ⟨v, hv⟩ : ∃ v, v = false := ⟨_, rfl⟩
    have Hv := Lib.hid (show (false || numBad 1 n) = false by unfold numBad; rw [decide_eq_false h0, decide_eq_false (show ¬ ((256 ^ 1 : Nat) : Int) ≤ n from h1)]; rfl)
    have HW1 := Lib.hid (h.setB v)
    have HP := Lib.hid (put_any A L c 1 (u64n n) (u64n_lt n) _ HW1.out.row.reads hl)
    clear h
    subst hv
    go_enter Try.func57, Try.ntmps57
    go_wp2_with fail
    refine HP.out.mono ?_
    rintro e w1 ⟨A', c', rfl, ho, hb⟩
    rw [wPut_ok (wOk_true (by omega) (by omega))] at ho ⊢
    obtain ⟨k1, ⟨u, k2⟩, k3⟩ := Hkey.out _ Hv.out A' c' w1 ho hb
    have K1 := Lib.hid k1
    have el : (L ++ be (Int.toNat 1) (u64n n)).length = L.length + 1 := by rw [List.length_append, be_length]; rfl
    rw [el]
    clear ho hb k1 c0 c1 f0 f1 el
    go_wp2_with fail
    go_end0
    exact ⟨rfl, K1.out⟩
set_option maxHeartbeats 1000000 in
set_option maxRecDepth 100000 in
theorem frNum2_any {w : World} {g : Nat} {A : Option Addr} {c : Nat} {L : List UInt8} {b : Bool} (h : IsW w g A c L b) (n : Int) (hl : L.length + 8 ≤ 140737488355328) :
    Calls Try.prog 57 #[.pointer (some ⟨g, 0, none⟩), .int .i64 2, .int .i64 n] w fun e w' => e = .returned (.tuple #[]) ∧ WPost w g A (L ++ be 2 (u64n n)) (b || numBad 2 n) w' := by
  obtain ⟨c0, c1, f0, f1⟩ := cells2 h.cell
  have hu := u64n_wrap n
  have key : ∀ v : Bool, (b || numBad 2 n) = v → ∀ A' c' w1, OwnB w1 (w.setCell ⟨g, 1, none⟩ (.bool v)).heap.size A' c' (L ++ be 2 (u64n n)) → Below (w.setCell ⟨g, 1, none⟩ (.bool v)).heap.size (w.setCell ⟨g, 1, none⟩ (.bool v)) w1 →
      WPost w g A (L ++ be 2 (u64n n)) (b || numBad 2 n) (w1.setCell ⟨g, 0, none⟩ (.slice A' (L.length + 2) c')) ∧ (∃ u, w1.cell? ⟨g, 0, none⟩ = some u) ∧ w1.frozen? ⟨g, 0, none⟩ = false := by
    intro v hv A' c' w1 ho hb
    obtain ⟨hr, hge⟩ := BRow.of_own ho
    have hW1 := (h.setB v).below hb
    rw [size_set] at hge
    have hgl := h.lt
    have hfin := hW1.setL hr (fun e => by have := hge g e; omega)
    have el : (L ++ be 2 (u64n n)).length = L.length + 2 := by rw [List.length_append, be_length]
    rw [el] at hfin
    rw [hv]
    have hcells := cells2 hW1.cell
    refine ⟨⟨A', c', hfin, ?_, fun k hk => .inr (hge k hk)⟩, ⟨_, hcells.1⟩, hcells.2.2.1⟩
    have hc1 : Chg (WF g A) w (w.setCell ⟨g, 1, none⟩ (.bool v)) := (Chg.refl _ w).set g 1 _ (fun _ => .inl rfl)
    exact (hc1.trans (Chg.of_below (F := fun _ => False) hb) (fun _ _ f => f.elim)).trans ((Chg.refl (fun i => i = g) w1).set g 0 _ (fun _ => rfl)) (fun i _ e => .inl e)
  have Hkey := Lib.hid key
  clear key
  have hsp : (b = true) ∨ (b = false ∧ n < 0) ∨ (b = false ∧ ¬ n < 0 ∧ 65536 ≤ n) ∨ (b = false ∧ ¬ n < 0 ∧ ¬ 65536 ≤ n) := by
    cases b
    · by_cases h0 : n < 0
      · exact .inr (.inl ⟨rfl, h0⟩)
      · by_cases h1 : 65536 ≤ n
        · exact .inr (.inr (.inl ⟨rfl, h0, h1⟩))
        · exact .inr (.inr (.inr ⟨rfl, h0, h1⟩))
    · exact .inl rfl
  rcases hsp with rfl | ⟨rfl, h0⟩ | ⟨rfl, h0, h1⟩ | ⟨rfl, h0, h1⟩
  · obtain ⟨v, hv⟩ : ∃ v, v = true := ⟨_, rfl⟩
    have Hv := Lib.hid (show (true || numBad 2 n) = true from rfl)
    have HW1 := Lib.hid (h.setB v)
    have HP := Lib.hid (put_any A L c 2 (u64n n) (u64n_lt n) _ HW1.out.row.reads hl)
    clear h
    subst hv
    go_enter Try.func57, Try.ntmps57
    go_wp2_with fail
    refine HP.out.mono ?_
    rintro e w1 ⟨A', c', rfl, ho, hb⟩
    rw [wPut_ok (wOk_true (by omega) (by omega))] at ho ⊢
    obtain ⟨k1, ⟨u, k2⟩, k3⟩ := Hkey.out _ Hv.out A' c' w1 ho hb
    have K1 := Lib.hid k1
    have el : (L ++ be (Int.toNat 2) (u64n n)).length = L.length + 2 := by rw [List.length_append, be_length]; rfl
    rw [el]
    clear ho hb k1 c0 c1 f0 f1 el
    go_wp2_with fail
    go_end0
    exact ⟨rfl, K1.out⟩
  · obtain ⟨v, hv⟩ : ∃ v, v = true := ⟨_, rfl⟩
    have Hv := Lib.hid (show (false || numBad 2 n) = true by unfold numBad; rw [decide_eq_true h0]; rfl)
    have HW1 := Lib.hid (h.setB v)
    have HP := Lib.hid (put_any A L c 2 (u64n n) (u64n_lt n) _ HW1.out.row.reads hl)
    clear h
    subst hv
    go_enter Try.func57, Try.ntmps57
    go_wp2_with fail
    refine HP.out.mono ?_
    rintro e w1 ⟨A', c', rfl, ho, hb⟩
    rw [wPut_ok (wOk_true (by omega) (by omega))] at ho ⊢
    obtain ⟨k1, ⟨u, k2⟩, k3⟩ := Hkey.out _ Hv.out A' c' w1 ho hb
    have K1 := Lib.hid k1
    have el : (L ++ be (Int.toNat 2) (u64n n)).length = L.length + 2 := by rw [List.length_append, be_length]; rfl
    rw [el]
    clear ho hb k1 c0 c1 f0 f1 el
    go_wp2_with fail
    go_end0
    exact ⟨rfl, K1.out⟩
  · obtain ⟨v, hv⟩ : ∃ v, v = true := ⟨_, rfl⟩
    have Hv := Lib.hid (show (false || numBad 2 n) = true by unfold numBad; rw [decide_eq_true (show ((256 ^ 2 : Nat) : Int) ≤ n from h1)]; simp)
    have HW1 := Lib.hid (h.setB v)
    have HP := Lib.hid (put_any A L c 2 (u64n n) (u64n_lt n) _ HW1.out.row.reads hl)
    clear h
    subst hv
    go_enter Try.func57, Try.ntmps57
    go_wp2_with fail
    refine HP.out.mono ?_
    rintro e w1 ⟨A', c', rfl, ho, hb⟩
    rw [wPut_ok (wOk_true (by omega) (by omega))] at ho ⊢
    obtain ⟨k1, ⟨u, k2⟩, k3⟩ := Hkey.out _ Hv.out A' c' w1 ho hb
    have K1 := Lib.hid k1
    have el : (L ++ be (Int.toNat 2) (u64n n)).length = L.length + 2 := by rw [List.length_append, be_length]; rfl
    rw [el]
    clear ho hb k1 c0 c1 f0 f1 el
    go_wp2_with fail
    go_end0
    exact ⟨rfl, K1.out⟩
  · obtain ⟨v, hv⟩ : ∃ v, v = false := ⟨_, rfl⟩
    have Hv := Lib.hid (show (false || numBad 2 n) = false by unfold numBad; rw [decide_eq_false h0, decide_eq_false (show ¬ ((256 ^ 2 : Nat) : Int) ≤ n from h1)]; rfl)
    have HW1 := Lib.hid (h.setB v)
    have HP := Lib.hid (put_any A L c 2 (u64n n) (u64n_lt n) _ HW1.out.row.reads hl)
    clear h
    subst hv
    go_enter Try.func57, Try.ntmps57
    go_wp2_with fail
    refine HP.out.mono ?_
    rintro e w1 ⟨A', c', rfl, ho, hb⟩
    rw [wPut_ok (wOk_true (by omega) (by omega))] at ho ⊢
    obtain ⟨k1, ⟨u, k2⟩, k3⟩ := Hkey.out _ Hv.out A' c' w1 ho hb
    have K1 := Lib.hid k1
    have el : (L ++ be (Int.toNat 2) (u64n n)).length = L.length + 2 := by rw [List.length_append, be_length]; rfl
    rw [el]
    clear ho hb k1 c0 c1 f0 f1 el
    go_wp2_with fail
    go_end0
    exact ⟨rfl, K1.out⟩
set_option maxHeartbeats 1000000 in
set_option maxRecDepth 100000 in
theorem frText_any {w : World} {g : Nat} {A : Option Addr} {c : Nat} {L : List UInt8} {b : Bool} (h : IsW w g A c L b) (s : ByteArray) (r : Bool) (hl : L.length + s.size ≤ 140737488355328) :
    Calls Try.prog 58 #[.pointer (some ⟨g, 0, none⟩), .string s, .bool r] w fun e w' => e = .returned (.tuple #[]) ∧ WPost w g A (L ++ bl s) (b || !r) w' := by
  obtain ⟨c0, c1, f0, f1⟩ := cells2 h.cell
  have key : ∀ v : Bool, (b || !r) = v → ∀ A' c' w1, BRow w1 A' c' (L ++ bl s) → Chg (fun i => blk A = some i) (w.setCell ⟨g, 1, none⟩ (.bool v)) w1 → (∀ k, blk A' = some k → blk A = some k ∨ w.heap.size ≤ k) →
      WPost w g A (L ++ bl s) (b || !r) (w1.setCell ⟨g, 0, none⟩ (.slice A' (L.length + s.size) c')) ∧ (∃ u, w1.cell? ⟨g, 0, none⟩ = some u) ∧ w1.frozen? ⟨g, 0, none⟩ = false := by
    intro v hv A' c' w1 hr hc hk
    have hW0 := h.setB v
    have hgl := h.lt
    have hne : blk A' ≠ some g := fun e => by
      rcases hk g e with h1 | h1
      · exact h.ne h1
      · omega
    have hcell : w1.heap[g]? = _ := (hc.block g hW0.lt h.ne).trans hW0.cell
    have el : (L ++ bl s).length = L.length + s.size := by rw [List.length_append, bl_length]
    have hcells := cells2 hcell
    have hfin : IsW (w1.setCell ⟨g, 0, none⟩ (.slice A' (L ++ bl s).length c')) g A' c' (L ++ bl s) v := ⟨heap_setCell_same w1 g 0 _ _ _ hcell, hr.chg (F := fun i => i = g) ((Chg.refl _ _).set g 0 _ (fun _ => rfl)) (fun k hk e => hne (e ▸ hk)), hne⟩
    rw [el] at hfin
    rw [hv]
    refine ⟨⟨A', c', hfin, ?_, hk⟩, ⟨_, hcells.1⟩, hcells.2.2.1⟩
    have hc1 : Chg (WF g A) w (w.setCell ⟨g, 1, none⟩ (.bool v)) := (Chg.refl _ w).set g 1 _ (fun _ => .inl rfl)
    exact (hc1.trans hc (fun i _ e => .inr e)).trans ((Chg.refl (fun i => i = g) w1).set g 0 _ (fun _ => rfl)) (fun i _ e => .inl e)
  have Hkey := Lib.hid key
  clear key
  cases b with
  | true =>
    obtain ⟨v, hv⟩ : ∃ v, v = true := ⟨_, rfl⟩
    have Hv := Lib.hid (show (true || !r) = true from rfl)
    have HW1 := Lib.hid (h.setB v)
    have Hsz := Lib.hid (show (w.setCell ⟨g, 1, none⟩ (.bool v)).heap.size = w.heap.size from size_set _ _ _)
    clear h
    subst hv
    go_enter Try.func58, Try.ntmps58
    go_wp2_with (at_builtin; refine wpList_append_bs rfl (.tmp 21) (.tmp 22) rfl A c L rfl HW1.out.row s rfl hl ?_)
    intro A' c' w1 hr hc hk
    obtain ⟨k1, ⟨u, k2⟩, k3⟩ := Hkey.out _ Hv.out A' c' w1 hr hc (fun k e => (hk k e).imp id (fun e => by omega))
    have K1 := Lib.hid k1
    have el : (L ++ bl s).length = L.length + s.size := by rw [List.length_append, bl_length]
    try rw [el]
    try rw [bl_length s]
    clear hr hc hk k1 c0 c1 f0 f1 el
    go_wp2_with fail
    go_end0
    exact ⟨rfl, K1.out⟩
  | false =>
    cases r with
    | true =>
      obtain ⟨v, hv⟩ : ∃ v, v = false := ⟨_, rfl⟩
      have Hv := Lib.hid (show (false || !true) = false from rfl)
      have HW1 := Lib.hid (h.setB v)
      have Hsz := Lib.hid (show (w.setCell ⟨g, 1, none⟩ (.bool v)).heap.size = w.heap.size from size_set _ _ _)
      clear h
      subst hv
      go_enter Try.func58, Try.ntmps58
      go_wp2_with (at_builtin; refine wpList_append_bs rfl (.tmp 21) (.tmp 22) rfl A c L rfl HW1.out.row s rfl hl ?_)
      intro A' c' w1 hr hc hk
      obtain ⟨k1, ⟨u, k2⟩, k3⟩ := Hkey.out _ Hv.out A' c' w1 hr hc (fun k e => (hk k e).imp id (fun e => by omega))
      have K1 := Lib.hid k1
      have el : (L ++ bl s).length = L.length + s.size := by rw [List.length_append, bl_length]
      try rw [el]
      try rw [bl_length s]
      clear hr hc hk k1 c0 c1 f0 f1 el
      go_wp2_with fail
      go_end0
      exact ⟨rfl, K1.out⟩
    | false =>
      obtain ⟨v, hv⟩ : ∃ v, v = true := ⟨_, rfl⟩
      have Hv := Lib.hid (show (false || !false) = true from rfl)
      have HW1 := Lib.hid (h.setB v)
      have Hsz := Lib.hid (show (w.setCell ⟨g, 1, none⟩ (.bool v)).heap.size = w.heap.size from size_set _ _ _)
      clear h
      subst hv
      go_enter Try.func58, Try.ntmps58
      go_wp2_with (at_builtin; refine wpList_append_bs rfl (.tmp 21) (.tmp 22) rfl A c L rfl HW1.out.row s rfl hl ?_)
      intro A' c' w1 hr hc hk
      obtain ⟨k1, ⟨u, k2⟩, k3⟩ := Hkey.out _ Hv.out A' c' w1 hr hc (fun k e => (hk k e).imp id (fun e => by omega))
      have K1 := Lib.hid k1
      have el : (L ++ bl s).length = L.length + s.size := by rw [List.length_append, bl_length]
      try rw [el]
      try rw [bl_length s]
      clear hr hc hk k1 c0 c1 f0 f1 el
      go_wp2_with fail
      go_end0
      exact ⟨rfl, K1.out⟩
end Go.Proofs.Ytcahflddafdhfaa
