/- A past: what sectors are found as. -/
import Derived.Test.YtiolfnnkkflaiaaPast5
open Go.RowKit
namespace Go.Proofs.Ytiolfnnkkflaiaa

theorem Reads.chg {w w1 : World} {sz n : Nat} {A : Option Addr} {xs : List Value} {F : Nat → Prop} (h : Reads w sz A n xs) (hc : Chg F w w1) (hF : ∀ k, blk A = some k → ¬ F k) : Reads w1 sz A n xs := by
  refine ⟨h.1, fun h0 => ?_⟩
  obtain ⟨ad, rfl, hcell⟩ := h.2 h0
  refine ⟨ad, rfl, fun j u hu => ?_⟩
  have h1 := hcell j u hu
  have h2 := hc.block (ad.add j).block (World.block_lt_of_cell? _ _ h1) (by rw [block_of_add]; exact hF _ rfl)
  rw [← h1]
  unfold World.cell?
  rw [h2]
theorem SRow.one (w : World) (s : ByteArray) : SRow (w.alloc (.cells #[.string s] 9)) (some ⟨w.heap.size, 0, none⟩) 1 [s] :=
  ⟨rfl, .inr ⟨w.heap.size, 1, #[.string s], rfl, Nat.zero_le _, heap_alloc_new _ _, Nat.le_refl _, by unfold maxLen; omega, rfl, rfl⟩⟩

def crashOk : List (List ByteArray) → List ByteArray → Bool
  | m :: ms, s :: ss => hasS m s && crashOk ms ss
  | _, _ => true
theorem crashOk_nil (m : List (List ByteArray)) : crashOk m [] = true := by cases m <;> rfl
theorem crashOk_cons (x : List ByteArray) (m : List (List ByteArray)) (s : ByteArray) (l : List ByteArray) : crashOk (x :: m) (s :: l) = (hasS x s && crashOk m l) := rfl
def crashE (m : List (List ByteArray)) (l : List ByteArray) : Nat := if l.length ≠ m.length then 8 else if crashOk m l = true then 0 else 10
def crashM (m : List (List ByteArray)) (l : List ByteArray) : List (List ByteArray) := if crashE m l = 0 then l.map (fun s => [s]) else m
def overK {α : Type} (new m : List α) (k : Nat) : List α := new.take k ++ m.drop k
theorem overK_zero {α : Type} (new m : List α) : overK new m 0 = m := by simp [overK]
theorem overK_all {α : Type} {new m : List α} (h : new.length = m.length) : overK new m m.length = new := by
  unfold overK
  rw [List.drop_length, List.append_nil, ← h, List.take_length]
theorem overK_get {α : Type} {new m : List α} (h : new.length = m.length) (k : Nat) (hk : k < m.length) : (overK new m k)[k]? = m[k]? := by
  unfold overK
  rw [List.getElem?_append_right (by simp; omega)]
  simp [List.length_take, Nat.min_eq_left (show k ≤ new.length by omega)]
theorem overK_succ {α : Type} {new m : List α} (h : new.length = m.length) (k : Nat) (hk : k < m.length) : (overK new m k).set k (new[k]'(by omega)) = overK new m (k + 1) := by
  unfold overK
  have hl : (new.take k).length = k := by simp; omega
  rw [List.set_append_right _ _ (by omega), hl, Nat.sub_self, List.drop_eq_getElem_cons hk, List.set_cons_zero, List.take_succ_eq_append_getElem (by omega), List.append_assoc]
  rfl

section
variable {w : World} {g : Nat} {A : Option Addr} {b c : Nat} {T : List TR} {B : Option Addr} {d : Nat} {I : List IM}
set_option maxHeartbeats 4000000 in
set_option maxRecDepth 100000 in
theorem pastCrash_any (h : PastM w g A c T B d I) (hlen : ∀ k (hk : k < T.length), T[k].xs.length ≤ 100000) (A' : Option Addr) (c' : Nat) (l : List ByteArray) (hr : Reads w 1 A' l.length (sts l)) (hsep : 0 < l.length → ∀ k, blk A' = some k → ¬ PastF g A T B I k) (hl : l.length ≤ 100000) :
    Calls Try.prog 39 #[.pointer (some ⟨g, 0, none⟩), .slice A' l.length c'] w fun e w' => e = .returned (.int .i64 (crashE (texts T) l : Nat)) ∧ ∃ T', PastD w g A c T B d I w' T' ∧ texts T' = crashM (texts T) l := by
  obtain ⟨c0, c1, _, _⟩ := cells2 h.cell
  have Hp := Lib.hid h
  have Hlen := Lib.hid hlen
  have Hr := Lib.hid hr
  have Hsep := Lib.hid hsep
  clear h hlen hr hsep
  by_cases hlT : l.length = T.length
  · have hb : ((l.length : Int) != (T.length : Int)) = false := by simp; omega
    have HlT := Lib.hid hlT
    have HE0 := Lib.hid (show crashE (texts T) l = if crashOk (texts T) l = true then 0 else 10 by unfold crashE; rw [if_neg (by rw [texts_length]; omega)])
    clear hlT
    go_enter Try.func39, Try.ntmps39
    go_wp2_with fail
    clear hb
    go_loopw [23] (fun i wr => ∃ (k : Nat), k ≤ l.length ∧ i = .int .i64 k ∧ Hid (crashOk ((texts T).drop k) (l.drop k) = crashOk (texts T) l) ∧ Hid (Below w.heap.size w wr)) (fun i _ => l.length - (intOf i).toNat)
    case atStart => exact ⟨0, Nat.zero_le _, rfl, Lib.hid rfl, Lib.hid (Below.refl _ _)⟩
    case round =>
      obtain ⟨k, hk, rfl, HO, Hb⟩ := hrel
      by_cases hlt : k < l.length
      · have hlt1 : k < (texts T).length := by rw [texts_length, ← HlT.out]; exact hlt
        obtain ⟨ad, rfl, d0⟩ := str_cell (Hr.out.below Hb.out) hlt
        rw [drop_at hlt, drop_at hlt1, crashOk_cons] at HO
        have HM := Lib.hid (pastMay_any (Hp.out.chg (G := fun _ => False) (.of_below Hb.out) (fun _ _ f => f)) Hlen.out (k : Int) l[k])
        have Hm := Lib.hid (show mayP (texts T) (k : Int) l[k] = hasS (texts T)[k] l[k] by
          unfold mayP
          rw [decide_eq_true (by unfold inP; omega), Bool.true_and, Int.toNat_natCast, List.getD_eq_getElem?_getD, List.getElem?_eq_getElem hlt1]; rfl)
        rw [Hm.out] at HM
        generalize l[k] = s at d0 HO HM Hm
        generalize (texts T)[k] = x at HO HM Hm
        clear Hm
        cases h3 : hasS x s with
        | true =>
          rw [h3, Bool.true_and] at HO
          rw [h3] at HM
          clear h3
          go_wp2_with fail
          refine HM.out.mono ?_
          rintro e w1 ⟨rfl, hb1⟩
          have Hb1 := Lib.hid (Hb.out.trans (hb1.mono Hb.out.size))
          clear hb1
          go_wp2_with fail
          case roundEnd =>
            exact ⟨⟨k + 1, by omega, by push_cast; rfl, HO, Hb1⟩, by simp only [intOf]; omega⟩
        | false =>
          rw [h3, Bool.false_and] at HO
          rw [h3] at HM
          clear h3
          have HE := Lib.hid (show crashE (texts T) l = 10 by rw [HE0.out, ← HO.out]; rfl)
          go_wp2_with fail
          refine HM.out.mono ?_
          rintro e w1 ⟨rfl, hb1⟩
          have Hb1 := Lib.hid (Hb.out.trans (hb1.mono Hb.out.size))
          clear hb1
          go_wp2_with fail
          go_ret
          exact ⟨by rw [HE.out]; rfl, T, (PastD.refl Hp.out).below Hb1.out, by unfold crashM; rw [HE.out]; rfl⟩
      · obtain rfl : k = l.length := by omega
        have HE := Lib.hid (show crashE (texts T) l = 0 by rw [HE0.out, ← HO.out, List.drop_length, crashOk_nil]; rfl)
        have HD0 := Lib.hid ((PastD.refl Hp.out).below Hb.out)
        clear HO c0 c1
        go_wp2_with fail
        obtain ⟨wa, rfl⟩ : ∃ wa : World, wa = wr := ⟨_, rfl⟩
        go_loopw [36] (fun i wr => ∃ (k : Nat) (T1 : List TR), k ≤ l.length ∧ i = .int .i64 k ∧ Hid (PastD w g A c T B d I wr T1) ∧ Hid (texts T1 = overK (l.map fun s => [s]) (texts T) k)) (fun i _ => l.length - (intOf i).toNat)
        case atStart => exact ⟨0, T, Nat.zero_le _, rfl, HD0, Lib.hid (overK_zero _ _).symm⟩
        case round =>
          obtain ⟨k, T1, hk, rfl, HD, HX⟩ := hrel
          by_cases hlt : k < l.length
          · have hlt1 : k < T1.length := by rw [HD.out.len, ← HlT.out]; exact hlt
            obtain ⟨b, rfl, hb, d1, f1⟩ := HD.out.m.tab.cell hlt1
            obtain ⟨ad, rfl, d0⟩ := str_cell (Hr.out.chg HD.out.chg (Hsep.out (by omega))) hlt
            obtain ⟨c0', c1', _, _⟩ := cells2 HD.out.m.cell
            have hkI : (k : Int) < (T1.length : Int) := by omega
            have Hset := Lib.hid (HD.out.set (w2 := wr.alloc (.cells #[.string l[k]] 9)) (t1 := ⟨wr.heap.size, 0, 1, [l[k]]⟩) hlt1 ((Chg.refl _ wr).alloc _) (TR.lies.of_own (SRow.one wr l[k]) (by simp)) (.inr (Nat.le_refl _)))
            have HX2 : Hid (texts (T1.set k ⟨wr.heap.size, 0, 1, [l[k]]⟩) = overK (l.map fun s => [s]) (texts T) (k + 1)) := Lib.hid (by
              rw [texts_set, HX.out, ← overK_succ (by rw [List.length_map, texts_length]; exact HlT.out) k (by rw [texts_length, ← HlT.out]; exact hlt)]
              simp)
            generalize l[k] = s at d0 Hset HX2
            rw [show ((wr.alloc (.cells #[.string s] 9)).setCell ⟨b, k, none⟩ (TR.v ⟨wr.heap.size, 0, 1, [s]⟩)) = (wr.setCell ⟨b, k, none⟩ (.slice (some ⟨wr.heap.size, 0, none⟩) 1 1)).alloc (.cells #[.string s] 9) from World.setCell_alloc_past _ b k _ hb] at Hset
            go_wp2_with fail
            case roundEnd =>
              exact ⟨⟨k + 1, _, by omega, by push_cast; rfl, Hset, HX2⟩, by simp only [intOf]; omega⟩
          · obtain rfl : k = l.length := by omega
            go_wp2_with fail
            go_ret
            exact ⟨by rw [HE.out]; rfl, T1, HD.out, by unfold crashM; rw [HE.out, if_pos rfl, HX.out, HlT.out, ← texts_length T, overK_all (by rw [List.length_map, texts_length]; exact HlT.out)]⟩
  · have hb : ((l.length : Int) != (T.length : Int)) = true := by rw [bne_iff_ne]; omega
    have HE := Lib.hid (show crashE (texts T) l = 8 by unfold crashE; rw [if_pos (by rw [texts_length]; exact hlT)])
    clear hlT
    go_enter Try.func39, Try.ntmps39
    go_wp2_with fail
    go_ret
    exact ⟨by rw [HE.out]; rfl, T, PastD.refl Hp.out, by unfold crashM; rw [HE.out]; rfl⟩
end
end Go.Proofs.Ytiolfnnkkflaiaa
