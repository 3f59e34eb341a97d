import Derived.Test.YtebcginnnjigjaaC5
import Derived.ScopeJumps
import Derived.WalkMore
import Derived.Deep.RegionLaw
section
/- The contracts of word.Reader's methods: bytes that are left, and why no more can be read. -/
open Go.RowKit
namespace Go.Proofs.Ytebcginnnjigjaa

/-- Block g is a reader: the bytes l are left; e: why no more can be read. -/
def IsR (w : World) (g : Nat) (l : List UInt8) (e : Nat) : Prop :=
  ∃ A c, w.heap[g]? = some (.cells #[.slice A l.length c, .int .i64 (e : Int)] 132 (0, 0)) ∧ Reads w 1 A l.length (bv l) ∧ l.length ≤ c ∧ l.length ≤ maxLen

theorem IsR.below {w w' : World} {g : Nat} {l : List UInt8} {e : Nat} (h : IsR w g l e) (hb : Below w.heap.size w w') : IsR w' g l e := by
  obtain ⟨A, c, h1, h2, h3, h4⟩ := h
  exact ⟨A, c, (hb.block g ((Array.getElem?_eq_some_iff.1 h1).1)).trans h1, h2.below hb, h3, h4⟩
theorem IsR.lt {w : World} {g : Nat} {l : List UInt8} {e : Nat} (h : IsR w g l e) : g < w.heap.size := by
  obtain ⟨A, c, h1, _⟩ := h
  exact (Array.getElem?_eq_some_iff.1 h1).1

/-! ### word.New -/
theorem new_any (A : Option Addr) (l : List UInt8) (c : Nat) (w : World) (hr : Reads w 1 A l.length (bv l)) (hl : l.length ≤ 140737488355328) :
    Calls Try.prog 56 #[.slice A l.length c] w fun e w' => ∃ g, e = .returned (.pointer (some ⟨g, 0, none⟩)) ∧ IsR w' g l 0 ∧ w.heap.size ≤ g ∧ Below w.heap.size w w' := by
  have Hr := Lib.hid hr
  clear hr
  go_enter Try.func56, Try.ntmps56
  have ho : OwnB (w.alloc (.cells #[] 5)) w.heap.size (some ⟨w.heap.size, 0, none⟩) 0 [] := World.ownsRow_lit w #[] 0 (Nat.le_refl _) (Nat.zero_le _) rfl
  have Ho := Lib.hid ho
  clear ho
  go_wp2_with (at_builtin; refine wpList_append_bytes w w.heap.size rfl (.tmp 3) (.tmp 4) rfl (some ⟨w.heap.size, 0, none⟩) 0 [] rfl Ho.out A c l rfl (Hr.out.alloc _) (by simp; omega) ((Below.refl _ _).alloc (Nat.le_refl _) _) (by simp) ?_)
  intro A2 c2 L w2 hL hown2 hb2 hB2
  obtain rfl : L = l := by simpa using hL.out
  have Ho2 := Lib.hid hown2
  have Hb2 := Lib.hid hb2
  clear hown2 hb2 hL Hr Ho
  go_wp2
  go_ret
  refine ⟨w2.heap.size, rfl, ⟨A2, c2, heap_alloc_new _ _, Ho2.out.reads.alloc _, Ho2.out.cap, Ho2.out.max⟩, hB2, Hb2.out.alloc hB2 _⟩

/-! ### Why, Left -/
theorem why_any (g : Nat) (l : List UInt8) (e : Nat) (w : World) (h : IsR w g l e) :
    Calls Try.prog 61 #[.pointer (some ⟨g, 0, none⟩)] w fun r w' => r = .returned (.int .i64 e) ∧ w = w' := by
  obtain ⟨A, c, h1, _⟩ := h
  have hc1 : w.cell? ⟨g, 1, none⟩ = some (.int .i64 e) := by rw [cell_of_row _ _ _ _ _ _ h1]; rfl
  clear h1
  go_enter Try.func61, Try.ntmps61
  go_wp2
  go_ret
  exact ⟨rfl, rfl⟩
theorem why_nil (w : World) : Calls Try.prog 61 #[.pointer none] w fun r w' => r = .returned (.int .i64 1) ∧ w = w' := by
  go_enter Try.func61, Try.ntmps61
  go_wp2
  go_ret
  exact ⟨rfl, rfl⟩

/-- How many bytes are left, as Left tells it. -/
def rLeft (l : List UInt8) (e : Nat) : Nat := if e = 0 then l.length else 0
theorem left_any (g : Nat) (l : List UInt8) (e : Nat) (w : World) (h : IsR w g l e) :
    Calls Try.prog 62 #[.pointer (some ⟨g, 0, none⟩)] w fun r w' => r = .returned (.int .i64 (rLeft l e : Nat)) ∧ w = w' := by
  obtain ⟨A, c, h1, _⟩ := h
  have hc0 : w.cell? ⟨g, 0, none⟩ = some (.slice A l.length c) := by rw [cell_of_row _ _ _ _ _ _ h1]; rfl
  have hc1 : w.cell? ⟨g, 1, none⟩ = some (.int .i64 e) := by rw [cell_of_row _ _ _ _ _ _ h1]; rfl
  clear h1
  by_cases he : e = 0
  · subst he
    go_enter Try.func62, Try.ntmps62
    go_wp2
    go_ret
    exact ⟨rfl, rfl⟩
  · have hb : ((e : Int) != 0) = true := by rw [bne_iff_ne]; omega
    have H := Lib.hid he
    clear he
    go_enter Try.func62, Try.ntmps62
    go_wp2
    go_ret
    exact ⟨by rw [rLeft, if_neg H.out]; rfl, rfl⟩
theorem left_nil (w : World) : Calls Try.prog 62 #[.pointer none] w fun r w' => r = .returned (.int .i64 0) ∧ w = w' := by
  go_enter Try.func62, Try.ntmps62
  go_wp2
  go_ret
  exact ⟨rfl, rfl⟩


/-! ### A scope with one jump ahead -/
theorem wp_scope_once {P : Program} {a : Act} {w : World} {Q : Exit → Act → World → Prop} {c rest : Code} (l : Nat) (hf : findLabel c l = some rest)
    (h : c.wp P (Exit.jump l (fun a w => rest.wp P (Exit.noGoto Q) a w) Q) a w) : (Code.scope c).wp P Q a w := by
  refine wp_scope_jumps l _ (fun _ _ => 0) hf h ?_
  intro a w hJ
  refine Code.wp_mono ?_ hJ
  intro e a w hq
  cases e <;> first | exact hq | exact hq.elim

theorem jump_ret {Q : Exit → Act → World → Prop} {J : Act → World → Prop} {l : Nat} {a : Act} {w : World} : Exit.jump l J Q .ret a w = Q .ret a w := rfl
theorem jump_goto {Q : Exit → Act → World → Prop} {J : Act → World → Prop} {l : Nat} {a : Act} {w : World} (h : J a w) : Exit.jump l J Q (.goto l) a w := ⟨rfl, h⟩
theorem grown_of_below {w w1 : World} (h : Below w.heap.size w w1) (row : Option Nat) : w.grownBy w1 row := ⟨h.os, h.tape, h.output, h.size, fun i hi _ => h.block i hi⟩
theorem grownBy_set (w : World) (a : Addr) (v : Value) : w.grownBy (w.setCell a v) (some a.block) :=
  ⟨rfl, rfl, rfl, by simp, fun i _ hne => Below.heap_setCell w a v i (fun e => hne (by rw [e]))⟩

theorem grownBy_at (w : World) (g i : Nat) (v : Value) : w.grownBy (w.setCell ⟨g, i, none⟩ v) (some g) := grownBy_set w ⟨g, i, none⟩ v

/-! ### Num -/
/-- What Num tells, what is left, why no more. -/
def rNum (l : List UInt8) (e : Nat) (x : Int) : Nat := if e = 0 then gNum l 0 x else 0
def rNumE (l : List UInt8) (e : Nat) (x : Int) : Nat := if e = 0 then gErr l.length 0 x else e
def rNumL (l : List UInt8) (e : Nat) (x : Int) : List UInt8 := if e = 0 ∧ gErr l.length 0 x = 0 then l.drop x.toNat else l
attribute [irreducible] rNum rNumE rNumL

theorem num_nil (x : Int) (w : World) : Calls Try.prog 58 #[.pointer none, .int .i64 x] w fun r w' => r = .returned (.int .u64 0) ∧ w = w' := by
  go_enter Try.func58, Try.ntmps58
  go_wp2
  apply wp_scope_straight
  go_wp2
  rw [Exit.noGoto_ret]
  go_ret
  exact ⟨rfl, rfl⟩

theorem num_any (g : Nat) (l : List UInt8) (e : Nat) (x : Int) (w : World) (h : IsR w g l e) :
    Calls Try.prog 58 #[.pointer (some ⟨g, 0, none⟩), .int .i64 x] w fun r w' => r = .returned (.int .u64 (rNum l e x : Nat)) ∧ IsR w' g (rNumL l e x) (rNumE l e x) ∧ w.grownBy w' (some g) := by
  obtain ⟨A, c, h1, h2, h3, h4⟩ := id h
  have hc0 : w.cell? ⟨g, 0, none⟩ = some (.slice A l.length c) := by rw [cell_of_row _ _ _ _ _ _ h1]; rfl
  have hc1 : w.cell? ⟨g, 1, none⟩ = some (.int .i64 e) := by rw [cell_of_row _ _ _ _ _ _ h1]; rfl
  have hf0 : w.frozen? ⟨g, 0, none⟩ = false := frozen_of_row _ _ _ _ _ h1
  have hf1 : w.frozen? ⟨g, 1, none⟩ = false := frozen_of_row _ _ _ _ _ h1
  have H := Lib.hid h
  have H1 := Lib.hid h1
  have H2 := Lib.hid h2
  clear h h1 h2
  by_cases he : e = 0
  · subst he
    by_cases hE : gErr l.length 0 x = 0
    · have hx : 1 ≤ x ∧ x ≤ 8 ∧ x ≤ l.length := by unfold gErr at hE; split at hE <;> first | omega | (split at hE <;> omega)
      obtain ⟨x, rfl⟩ := Int.eq_ofNat_of_zero_le (show 0 ≤ x by omega)
      obtain ⟨A', hcut, hA'⟩ := cutB_from A c l x (by omega) h3
      have HA' := Lib.hid (hA' w H2.out)
      have HE := Lib.hid hE
      have hx1 : x ≤ l.length := by omega
      clear hA' hE hx
      go_enter Try.func58, Try.ntmps58
      go_wp2
      refine wp_scope_once 0 rfl ?_
      go_wp2_with fail
      refine (get_any A l c 0 x w H2.out h3 h4).mono ?_
      rintro e1 w1 ⟨rfl, rfl⟩
      rw [HE.out]
      go_wp2
      rw [jump_ret]
      go_ret
      refine ⟨by rw [rNum, if_pos rfl]; rfl, ?_, grownBy_set _ _ _⟩
      rw [rNumL, rNumE, if_pos rfl, if_pos ⟨rfl, HE.out⟩, HE.out, Int.toNat_natCast]
      refine ⟨A', c - x, ?_, HA'.out.far H1.out (by simp) 0 _, by rw [List.length_drop]; omega, by rw [List.length_drop]; omega⟩
      rw [heap_setCell_same _ _ _ _ _ _ H1.out, List.length_drop]; rfl
    · have HE := Lib.hid hE
      have hb : ((gErr l.length 0 x : Int) != 0) = true := by rw [bne_iff_ne]; omega
      clear hE
      go_enter Try.func58, Try.ntmps58
      go_wp2
      refine wp_scope_once 0 rfl ?_
      go_wp2_with fail
      refine (get_any A l c 0 x w H2.out h3 h4).mono ?_
      rintro e1 w1 ⟨rfl, rfl⟩
      go_wp2
      apply wp_goto
      simp only [Exit.then]
      refine jump_goto ?_
      go_wp2
      rw [Exit.noGoto_ret]
      go_ret
      refine ⟨by rw [rNum, if_pos rfl, gNum_bad HE.out]; rfl, ?_, grownBy_set _ _ _⟩
      rw [rNumL, rNumE, if_pos rfl, if_neg (fun h => HE.out h.2)]
      refine ⟨A, c, ?_, H2.out.far H1.out (by simp) 1 _, h3, h4⟩
      rw [heap_setCell_same _ _ _ _ _ _ H1.out]; rfl
  · have hb : ((e : Int) != 0) = true := by rw [bne_iff_ne]; omega
    have He := Lib.hid he
    clear he
    go_enter Try.func58, Try.ntmps58
    go_wp2
    apply wp_scope_straight
    go_wp2
    rw [Exit.noGoto_ret]
    go_ret
    refine ⟨?_, ?_, World.grownBy.refl _ _⟩
    · rw [rNum, if_neg He.out]; rfl
    · rw [rNumL, rNumE, if_neg He.out, if_neg (fun h => He.out h.1)]; exact H.out


/-! ### Bytes -/
def rBytes (l : List UInt8) (e : Nat) (x : Int) : List UInt8 := if e = 0 ∧ 0 ≤ x ∧ x ≤ l.length then l.take x.toNat else []
def rBytesE (l : List UInt8) (e : Nat) (x : Int) : Nat := if e ≠ 0 then e else if x < 0 then 2 else if (l.length : Int) < x then 7 else 0
def rBytesL (l : List UInt8) (e : Nat) (x : Int) : List UInt8 := if e = 0 ∧ 0 ≤ x ∧ x ≤ l.length then l.drop x.toNat else l
theorem rBytes_err {l : List UInt8} {e : Nat} {x : Int} (h : e ≠ 0) : rBytes l e x = [] ∧ rBytesE l e x = e ∧ rBytesL l e x = l :=
  ⟨by unfold rBytes; rw [if_neg (fun h' => h h'.1)], by unfold rBytesE; rw [if_pos h], by unfold rBytesL; rw [if_neg (fun h' => h h'.1)]⟩
theorem rBytes_neg {l : List UInt8} {x : Int} (h : x < 0) : rBytes l 0 x = [] ∧ rBytesE l 0 x = 2 ∧ rBytesL l 0 x = l :=
  ⟨by unfold rBytes; rw [if_neg (by omega)], by unfold rBytesE; rw [if_neg (by omega), if_pos h], by unfold rBytesL; rw [if_neg (by omega)]⟩
theorem rBytes_short {l : List UInt8} {x : Int} (h : (l.length : Int) < x) : rBytes l 0 x = [] ∧ rBytesE l 0 x = 7 ∧ rBytesL l 0 x = l :=
  ⟨by unfold rBytes; rw [if_neg (by omega)], by unfold rBytesE; rw [if_neg (by omega), if_neg (by omega), if_pos h], by unfold rBytesL; rw [if_neg (by omega)]⟩
theorem rBytes_ok {l : List UInt8} {x : Nat} (h : x ≤ l.length) : rBytes l 0 (x : Int) = l.take x ∧ rBytesE l 0 (x : Int) = 0 ∧ rBytesL l 0 (x : Int) = l.drop x :=
  ⟨by unfold rBytes; rw [if_pos (by omega), Int.toNat_natCast], by unfold rBytesE; rw [if_neg (by omega), if_neg (by omega), if_neg (by omega)], by unfold rBytesL; rw [if_pos (by omega), Int.toNat_natCast]⟩
attribute [irreducible] rBytes rBytesE rBytesL

theorem bytes_nil (x : Int) (w : World) : Calls Try.prog 60 #[.pointer none, .int .i64 x] w fun r w' => r = .returned (.slice none 0 0) ∧ w = w' := by
  go_enter Try.func60, Try.ntmps60
  go_wp2
  apply wp_scope_straight
  go_wp2
  rw [Exit.noGoto_ret]
  go_ret
  exact ⟨rfl, rfl⟩

/-- What Bytes leaves: the reader's block and new ones are written to, no other. -/
theorem bytes_err (g : Nat) (l : List UInt8) (e : Nat) (he : e ≠ 0) (x : Int) (w : World) (h : IsR w g l e) :
    Calls Try.prog 60 #[.pointer (some ⟨g, 0, none⟩), .int .i64 x] w fun r w' => r = .returned (.slice none 0 0) ∧ w = w' := by
  obtain ⟨A, c, h1, h2, h3, h4⟩ := id h
  have hc1 : w.cell? ⟨g, 1, none⟩ = some (.int .i64 e) := by rw [cell_of_row _ _ _ _ _ _ h1]; rfl
  have hb : ((e : Int) != 0) = true := by rw [bne_iff_ne]; omega
  clear h h1 h2 he
  go_enter Try.func60, Try.ntmps60
  go_wp2
  apply wp_scope_straight
  go_wp2
  rw [Exit.noGoto_ret]
  go_ret
  exact ⟨rfl, rfl⟩

theorem bytes_bad (g : Nat) (l : List UInt8) (x : Int) (hx : x < 0 ∨ (l.length : Int) < x) (w : World) (h : IsR w g l 0) :
    Calls Try.prog 60 #[.pointer (some ⟨g, 0, none⟩), .int .i64 x] w fun r w' => r = .returned (.slice none 0 0) ∧ IsR w' g l (rBytesE l 0 x) ∧ w.grownBy w' (some g) := by
  obtain ⟨A, c, h1, h2, h3, h4⟩ := id h
  have hc0 : w.cell? ⟨g, 0, none⟩ = some (.slice A l.length c) := by rw [cell_of_row _ _ _ _ _ _ h1]; rfl
  have hc1 : w.cell? ⟨g, 1, none⟩ = some (.int .i64 0) := by rw [cell_of_row _ _ _ _ _ _ h1]; rfl
  have hf1 : w.frozen? ⟨g, 1, none⟩ = false := frozen_of_row _ _ _ _ _ h1
  have H1 := Lib.hid h1
  have H2 := Lib.hid h2
  clear h h1 h2
  by_cases hx0 : x < 0
  · clear hx
    go_enter Try.func60, Try.ntmps60
    go_wp2
    refine wp_scope_once 0 rfl ?_
    go_wp2
    apply wp_goto
    simp only [Exit.then]
    refine jump_goto ?_
    go_wp2
    rw [Exit.noGoto_ret]
    go_ret
    refine ⟨rfl, ?_, grownBy_set _ _ _⟩
    rw [(rBytes_neg hx0).2.1]
    refine ⟨A, c, ?_, H2.out.far H1.out (by simp) 1 _, h3, h4⟩
    rw [heap_setCell_same _ _ _ _ _ _ H1.out]; rfl
  · have hxl : (l.length : Int) < x := by omega
    clear hx
    go_enter Try.func60, Try.ntmps60
    go_wp2
    refine wp_scope_once 0 rfl ?_
    go_wp2
    apply wp_goto
    simp only [Exit.then]
    refine jump_goto ?_
    go_wp2
    rw [Exit.noGoto_ret]
    go_ret
    refine ⟨rfl, ?_, grownBy_set _ _ _⟩
    rw [(rBytes_short hxl).2.1]
    refine ⟨A, c, ?_, H2.out.far H1.out (by simp) 1 _, h3, h4⟩
    rw [heap_setCell_same _ _ _ _ _ _ H1.out]; rfl

theorem bytes_ok (g : Nat) (l : List UInt8) (x : Nat) (hx : x ≤ l.length) (w : World) (h : IsR w g l 0) (hl : l.length ≤ 140737488355328) :
    Calls Try.prog 60 #[.pointer (some ⟨g, 0, none⟩), .int .i64 (x : Int)] w fun r w' => ∃ A1 c1, r = .returned (.slice A1 (l.take x).length c1) ∧ OwnB w' w.heap.size A1 c1 (l.take x) ∧ IsR w' g (l.drop x) 0 ∧ w.grownBy w' (some g) := by
  obtain ⟨A, c, h1, h2, h3, h4⟩ := id h
  have hc0 : w.cell? ⟨g, 0, none⟩ = some (.slice A l.length c) := by rw [cell_of_row _ _ _ _ _ _ h1]; rfl
  have hc1 : w.cell? ⟨g, 1, none⟩ = some (.int .i64 0) := by rw [cell_of_row _ _ _ _ _ _ h1]; rfl
  have hf0 : w.frozen? ⟨g, 0, none⟩ = false := frozen_of_row _ _ _ _ _ h1
  obtain ⟨A', hcut, hA'⟩ := cutB_from A c l x hx h3
  obtain ⟨hto, hA''⟩ := cutB_to A c l x hx h3
  have hgs : g < w.heap.size := h.lt
  have H1 := Lib.hid h1
  have H2 := Lib.hid h2
  have H3 := Lib.hid (hA' w h2)
  have H4 := Lib.hid (hA'' w h2)
  have hlt : (l.take x).length = x := by simp; omega
  have Hlt := Lib.hid hlt
  clear h h1 h2 hA' hA'' hlt
  go_enter Try.func60, Try.ntmps60
  go_wp2
  refine wp_scope_once 0 rfl ?_
  go_wp2
  go_region_law (refine step_append_bytes w w.heap.size rfl (.tmp 26) (.tmp 32) rfl none 0 [] rfl (OwnB.nil _ _) A c (l.take x) (by rw [Hlt.out]; rfl) H4.out.drew (by simp; omega) ((Below.refl _ _).drew) (Nat.le_refl _) ?_; intro A1 c1 L w1 hL how hb hB; have hc0' := (hb.cell (p := ⟨g, 0, none⟩) hgs).trans hc0; have hf0' := (hb.frozen (p := ⟨g, 0, none⟩) hgs).trans hf0)
  all_goals
    obtain rfl : L = l.take x := by simpa using hL.out
    go_wp2
    rw [jump_ret]
    go_ret
    have h1 := (hb.block g hgs).trans H1.out
    refine ⟨A1, c1, rfl, ownsRow_setCell_below how (by exact hgs) _, ⟨A', c - x, ?_, (H3.out.below hb).far h1 (by simp) 0 _, by rw [List.length_drop]; omega, by rw [List.length_drop]; omega⟩, (grown_of_below hb _).trans (grownBy_set _ _ _)⟩
    rw [heap_setCell_same _ _ _ _ _ _ h1, List.length_drop]; rfl

/-- Whatever is asked. -/
theorem bytes_any (g : Nat) (l : List UInt8) (e : Nat) (x : Int) (w : World) (h : IsR w g l e) (hl : l.length ≤ 140737488355328) :
    Calls Try.prog 60 #[.pointer (some ⟨g, 0, none⟩), .int .i64 x] w fun r w' => ∃ A1 c1, r = .returned (.slice A1 (rBytes l e x).length c1) ∧ OwnB w' w.heap.size A1 c1 (rBytes l e x) ∧ IsR w' g (rBytesL l e x) (rBytesE l e x) ∧ w.grownBy w' (some g) := by
  by_cases he : e = 0
  · subst he
    by_cases hx : x < 0 ∨ (l.length : Int) < x
    · have h1 : rBytes l 0 x = [] ∧ rBytesL l 0 x = l := by
        rcases hx with hx | hx
        · exact ⟨(rBytes_neg hx).1, (rBytes_neg hx).2.2⟩
        · exact ⟨(rBytes_short hx).1, (rBytes_short hx).2.2⟩
      rw [h1.1, h1.2]
      refine (bytes_bad g l x hx w h).mono ?_
      rintro r w' ⟨rfl, h2, h3⟩
      exact ⟨none, 0, rfl, OwnB.nil _ _, h2, h3⟩
    · obtain ⟨x, rfl⟩ := Int.eq_ofNat_of_zero_le (show 0 ≤ x by omega)
      have hx' : x ≤ l.length := by omega
      obtain ⟨h1, h2, h3⟩ := rBytes_ok hx'
      rw [h1, h2, h3]
      exact bytes_ok g l x hx' w h hl
  · obtain ⟨h1, h2, h3⟩ := rBytes_err (l := l) (x := x) he
    rw [h1, h2, h3]
    refine (bytes_err g l e he x w h).mono ?_
    rintro r w' ⟨rfl, rfl⟩
    exact ⟨none, 0, rfl, OwnB.nil _ _, h, World.grownBy.refl _ _⟩

end Go.Proofs.Ytebcginnnjigjaa

end
section
/- The contracts of word.Reader's methods, with the bytes in blocks ahead of the reader's own. -/
open Go.RowKit
namespace Go.Proofs.Ytebcginnnjigjaa

/-- Two worlds with the same blocks, up to B. -/
def SameTo (B : Nat) (w W : World) : Prop := ∀ k, k < B → W.heap[k]? = w.heap[k]?
theorem SameTo.refl (B : Nat) (w : World) : SameTo B w w := fun _ _ => rfl
theorem SameTo.trans {B : Nat} {a b c : World} (h : SameTo B a b) (k : SameTo B b c) : SameTo B a c := fun i hi => (k i hi).trans (h i hi)
theorem SameTo.grown {w w' : World} {g : Nat} (hg : g < w.heap.size) (h : w.grownBy w' (some g)) : SameTo g w w' := fun k hk => h.block k (by omega) (by simp; omega)

/-- Block g is a reader: the bytes l are left, in blocks ahead of g; e: why no more can be read. -/
def IsRB (w : World) (g : Nat) (l : List UInt8) (e : Nat) : Prop :=
  ∃ A c, w.heap[g]? = some (.cells #[.slice A l.length c, .int .i64 (e : Int)] 132 (0, 0)) ∧ (∀ W, SameTo g w W → Reads W 1 A l.length (bv l)) ∧ l.length ≤ c ∧ l.length ≤ maxLen
theorem IsRB.isR {w : World} {g : Nat} {l : List UInt8} {e : Nat} (h : IsRB w g l e) : IsR w g l e := by
  obtain ⟨A, c, h1, h2, h3, h4⟩ := h
  exact ⟨A, c, h1, h2 w (SameTo.refl _ _), h3, h4⟩
theorem IsRB.lt {w : World} {g : Nat} {l : List UInt8} {e : Nat} (h : IsRB w g l e) : g < w.heap.size := h.isR.lt
theorem IsRB.keep {w w' : World} {g : Nat} {l : List UInt8} {e : Nat} (h : IsRB w g l e) (h' : SameTo (g + 1) w w') : IsRB w' g l e := by
  obtain ⟨A, c, h1, h2, h3, h4⟩ := h
  exact ⟨A, c, (h' g (by omega)).trans h1, fun W hW => h2 W (SameTo.trans (fun k hk => h' k (by omega)) hW), h3, h4⟩
theorem IsRB.below {w w' : World} {g : Nat} {l : List UInt8} {e : Nat} (h : IsRB w g l e) (hb : Below w.heap.size w w') : IsRB w' g l e :=
  h.keep (fun k hk => hb.block k (by have := h.lt; omega))

theorem SameTo.set (w : World) (g i : Nat) (v : Value) : SameTo g w (w.setCell ⟨g, i, none⟩ v) := fun k hk => Below.heap_setCell w ⟨g, i, none⟩ v k (fun e => by have : k = g := e; omega)

theorem newB_any (A : Option Addr) (l : List UInt8) (c : Nat) (w : World) (hr : Reads w 1 A l.length (bv l)) (hl : l.length ≤ 140737488355328) :
    Calls Try.prog 56 #[.slice A l.length c] w fun e w' => ∃ g, e = .returned (.pointer (some ⟨g, 0, none⟩)) ∧ IsRB w' g l 0 ∧ w.heap.size ≤ g ∧ Below w.heap.size w w' := by
  have Hr := Lib.hid hr
  clear hr
  go_enter Try.func56, Try.ntmps56
  have ho : OwnB (w.alloc (.cells #[] 5)) w.heap.size (some ⟨w.heap.size, 0, none⟩) 0 [] := World.ownsRow_lit w #[] 0 (Nat.le_refl _) (Nat.zero_le _) rfl
  have Ho := Lib.hid ho
  clear ho
  go_wp2_with (at_builtin; refine wpList_append_bytes w w.heap.size rfl (.tmp 3) (.tmp 4) rfl (some ⟨w.heap.size, 0, none⟩) 0 [] rfl Ho.out A c l rfl (Hr.out.alloc _) (by simp; omega) ((Below.refl _ _).alloc (Nat.le_refl _) _) (by simp) ?_)
  intro A2 c2 L w2 hL hown2 hb2 hB2
  obtain rfl : L = l := by simpa using hL.out
  have Ho2 := Lib.hid hown2
  have Hb2 := Lib.hid hb2
  clear hown2 hb2 hL Hr Ho
  go_wp2
  go_ret
  refine ⟨w2.heap.size, rfl, ⟨A2, c2, heap_alloc_new _ _, fun W hW => ?_, Ho2.out.cap, Ho2.out.max⟩, hB2, Hb2.out.alloc hB2 _⟩
  refine ⟨Ho2.out.reads.1, fun h0 => ?_⟩
  obtain ⟨ad, e, hc⟩ := Ho2.out.reads.2 h0
  refine ⟨ad, e, fun j u hu => ?_⟩
  have h1 := hc j u hu
  have hlt := World.block_lt_of_cell? _ _ h1
  have h2 := hW _ hlt
  rw [heap_alloc_old _ _ hlt] at h2
  rw [← h1]
  unfold World.cell?
  rw [h2]

theorem numB_any (g : Nat) (l : List UInt8) (e : Nat) (x : Int) (w : World) (h : IsRB w g l e) :
    Calls Try.prog 58 #[.pointer (some ⟨g, 0, none⟩), .int .i64 x] w fun r w' => r = .returned (.int .u64 (rNum l e x : Nat)) ∧ IsRB w' g (rNumL l e x) (rNumE l e x) ∧ w.grownBy w' (some g) := by
  obtain ⟨A, c, h1, h2', h3, h4⟩ := id h
  have h2 := h2' w (SameTo.refl _ _)
  have HS := Lib.hid h2'
  clear h2'
  have hc0 : w.cell? ⟨g, 0, none⟩ = some (.slice A l.length c) := by rw [cell_of_row _ _ _ _ _ _ h1]; rfl
  have hc1 : w.cell? ⟨g, 1, none⟩ = some (.int .i64 e) := by rw [cell_of_row _ _ _ _ _ _ h1]; rfl
  have hf0 : w.frozen? ⟨g, 0, none⟩ = false := frozen_of_row _ _ _ _ _ h1
  have hf1 : w.frozen? ⟨g, 1, none⟩ = false := frozen_of_row _ _ _ _ _ h1
  have H := Lib.hid h
  have H1 := Lib.hid h1
  have H2 := Lib.hid h2
  clear h h1 h2
  by_cases he : e = 0
  · subst he
    by_cases hE : gErr l.length 0 x = 0
    · have hx : 1 ≤ x ∧ x ≤ 8 ∧ x ≤ l.length := by unfold gErr at hE; split at hE <;> first | omega | (split at hE <;> omega)
      obtain ⟨x, rfl⟩ := Int.eq_ofNat_of_zero_le (show 0 ≤ x by omega)
      obtain ⟨A', hcut, hA'⟩ := cutB_from A c l x (by omega) h3
      have HA' := Lib.hid (fun W (hW : SameTo g w W) => hA' W (HS.out W hW))
      have HE := Lib.hid hE
      have hx1 : x ≤ l.length := by omega
      clear hA' hE hx
      go_enter Try.func58, Try.ntmps58
      go_wp2
      refine wp_scope_once 0 rfl ?_
      go_wp2_with fail
      refine (get_any A l c 0 x w H2.out h3 h4).mono ?_
      rintro e1 w1 ⟨rfl, rfl⟩
      rw [HE.out]
      go_wp2
      rw [jump_ret]
      go_ret
      refine ⟨by rw [rNum, if_pos rfl]; rfl, ?_, grownBy_set _ _ _⟩
      rw [rNumL, rNumE, if_pos rfl, if_pos ⟨rfl, HE.out⟩, HE.out, Int.toNat_natCast]
      refine ⟨A', c - x, ?_, fun W hW => HA'.out W ((SameTo.set w g 0 _).trans hW), by rw [List.length_drop]; omega, by rw [List.length_drop]; omega⟩
      rw [heap_setCell_same _ _ _ _ _ _ H1.out, List.length_drop]; rfl
    · have HE := Lib.hid hE
      have hb : ((gErr l.length 0 x : Int) != 0) = true := by rw [bne_iff_ne]; omega
      clear hE
      go_enter Try.func58, Try.ntmps58
      go_wp2
      refine wp_scope_once 0 rfl ?_
      go_wp2_with fail
      refine (get_any A l c 0 x w H2.out h3 h4).mono ?_
      rintro e1 w1 ⟨rfl, rfl⟩
      go_wp2
      apply wp_goto
      simp only [Exit.then]
      refine jump_goto ?_
      go_wp2
      rw [Exit.noGoto_ret]
      go_ret
      refine ⟨by rw [rNum, if_pos rfl, gNum_bad HE.out]; rfl, ?_, grownBy_set _ _ _⟩
      rw [rNumL, rNumE, if_pos rfl, if_neg (fun h => HE.out h.2)]
      refine ⟨A, c, ?_, fun W hW => HS.out W ((SameTo.set w g 1 _).trans hW), h3, h4⟩
      rw [heap_setCell_same _ _ _ _ _ _ H1.out]; rfl
  · have hb : ((e : Int) != 0) = true := by rw [bne_iff_ne]; omega
    have He := Lib.hid he
    clear he
    go_enter Try.func58, Try.ntmps58
    go_wp2
    apply wp_scope_straight
    go_wp2
    rw [Exit.noGoto_ret]
    go_ret
    refine ⟨?_, ?_, World.grownBy.refl _ _⟩
    · rw [rNum, if_neg He.out]; rfl
    · rw [rNumL, rNumE, if_neg He.out, if_neg (fun h => He.out h.1)]; exact H.out


theorem bytesB_bad (g : Nat) (l : List UInt8) (x : Int) (hx : x < 0 ∨ (l.length : Int) < x) (w : World) (h : IsRB w g l 0) :
    Calls Try.prog 60 #[.pointer (some ⟨g, 0, none⟩), .int .i64 x] w fun r w' => r = .returned (.slice none 0 0) ∧ IsRB w' g l (rBytesE l 0 x) ∧ w.grownBy w' (some g) := by
  obtain ⟨A, c, h1, h2', h3, h4⟩ := id h
  have h2 := h2' w (SameTo.refl _ _)
  have HS := Lib.hid h2'
  clear h2'
  have hc0 : w.cell? ⟨g, 0, none⟩ = some (.slice A l.length c) := by rw [cell_of_row _ _ _ _ _ _ h1]; rfl
  have hc1 : w.cell? ⟨g, 1, none⟩ = some (.int .i64 0) := by rw [cell_of_row _ _ _ _ _ _ h1]; rfl
  have hf1 : w.frozen? ⟨g, 1, none⟩ = false := frozen_of_row _ _ _ _ _ h1
  have H1 := Lib.hid h1
  have H2 := Lib.hid h2
  clear h h1 h2
  by_cases hx0 : x < 0
  · clear hx
    go_enter Try.func60, Try.ntmps60
    go_wp2
    refine wp_scope_once 0 rfl ?_
    go_wp2
    apply wp_goto
    simp only [Exit.then]
    refine jump_goto ?_
    go_wp2
    rw [Exit.noGoto_ret]
    go_ret
    refine ⟨rfl, ?_, grownBy_set _ _ _⟩
    rw [(rBytes_neg hx0).2.1]
    refine ⟨A, c, ?_, fun W hW => HS.out W ((SameTo.set w g 1 _).trans hW), h3, h4⟩
    rw [heap_setCell_same _ _ _ _ _ _ H1.out]; rfl
  · have hxl : (l.length : Int) < x := by omega
    clear hx
    go_enter Try.func60, Try.ntmps60
    go_wp2
    refine wp_scope_once 0 rfl ?_
    go_wp2
    apply wp_goto
    simp only [Exit.then]
    refine jump_goto ?_
    go_wp2
    rw [Exit.noGoto_ret]
    go_ret
    refine ⟨rfl, ?_, grownBy_set _ _ _⟩
    rw [(rBytes_short hxl).2.1]
    refine ⟨A, c, ?_, fun W hW => HS.out W ((SameTo.set w g 1 _).trans hW), h3, h4⟩
    rw [heap_setCell_same _ _ _ _ _ _ H1.out]; rfl

theorem bytesB_ok (g : Nat) (l : List UInt8) (x : Nat) (hx : x ≤ l.length) (w : World) (h : IsRB w g l 0) (hl : l.length ≤ 140737488355328) :
    Calls Try.prog 60 #[.pointer (some ⟨g, 0, none⟩), .int .i64 (x : Int)] w fun r w' => ∃ A1 c1, r = .returned (.slice A1 (l.take x).length c1) ∧ OwnB w' w.heap.size A1 c1 (l.take x) ∧ IsRB w' g (l.drop x) 0 ∧ w.grownBy w' (some g) := by
  obtain ⟨A, c, h1, h2', h3, h4⟩ := id h
  have h2 := h2' w (SameTo.refl _ _)
  have HS := Lib.hid h2'
  clear h2'
  have hc0 : w.cell? ⟨g, 0, none⟩ = some (.slice A l.length c) := by rw [cell_of_row _ _ _ _ _ _ h1]; rfl
  have hc1 : w.cell? ⟨g, 1, none⟩ = some (.int .i64 0) := by rw [cell_of_row _ _ _ _ _ _ h1]; rfl
  have hf0 : w.frozen? ⟨g, 0, none⟩ = false := frozen_of_row _ _ _ _ _ h1
  obtain ⟨A', hcut, hA'⟩ := cutB_from A c l x hx h3
  obtain ⟨hto, hA''⟩ := cutB_to A c l x hx h3
  have hgs : g < w.heap.size := h.lt
  have H1 := Lib.hid h1
  have H2 := Lib.hid h2
  have H3 := Lib.hid (fun W (hW : SameTo g w W) => hA' W (HS.out W hW))
  have H4 := Lib.hid (hA'' w h2)
  have hlt : (l.take x).length = x := by simp; omega
  have Hlt := Lib.hid hlt
  clear h h1 h2 hA' hA'' hlt
  go_enter Try.func60, Try.ntmps60
  go_wp2
  refine wp_scope_once 0 rfl ?_
  go_wp2
  go_region_law (refine step_append_bytes w w.heap.size rfl (.tmp 26) (.tmp 32) rfl none 0 [] rfl (OwnB.nil _ _) A c (l.take x) (by rw [Hlt.out]; rfl) H4.out.drew (by simp; omega) ((Below.refl _ _).drew) (Nat.le_refl _) ?_; intro A1 c1 L w1 hL how hb hB; have hc0' := (hb.cell (p := ⟨g, 0, none⟩) hgs).trans hc0; have hf0' := (hb.frozen (p := ⟨g, 0, none⟩) hgs).trans hf0)
  all_goals
    obtain rfl : L = l.take x := by simpa using hL.out
    go_wp2
    rw [jump_ret]
    go_ret
    have h1 := (hb.block g hgs).trans H1.out
    refine ⟨A1, c1, rfl, ownsRow_setCell_below how (by exact hgs) _, ⟨A', c - x, ?_, fun W hW => H3.out W (SameTo.trans (fun k hk => hb.block k (by omega)) ((SameTo.set w1 g 0 _).trans hW)), by rw [List.length_drop]; omega, by rw [List.length_drop]; omega⟩, (grown_of_below hb _).trans (grownBy_set _ _ _)⟩
    rw [heap_setCell_same _ _ _ _ _ _ h1, List.length_drop]; rfl

theorem bytesB_any (g : Nat) (l : List UInt8) (e : Nat) (x : Int) (w : World) (h : IsRB w g l e) (hl : l.length ≤ 140737488355328) :
    Calls Try.prog 60 #[.pointer (some ⟨g, 0, none⟩), .int .i64 x] w fun r w' => ∃ A1 c1, r = .returned (.slice A1 (rBytes l e x).length c1) ∧ OwnB w' w.heap.size A1 c1 (rBytes l e x) ∧ IsRB w' g (rBytesL l e x) (rBytesE l e x) ∧ w.grownBy w' (some g) := by
  by_cases he : e = 0
  · subst he
    by_cases hx : x < 0 ∨ (l.length : Int) < x
    · have h1 : rBytes l 0 x = [] ∧ rBytesL l 0 x = l := by
        rcases hx with hx | hx
        · exact ⟨(rBytes_neg hx).1, (rBytes_neg hx).2.2⟩
        · exact ⟨(rBytes_short hx).1, (rBytes_short hx).2.2⟩
      rw [h1.1, h1.2]
      refine (bytesB_bad g l x hx w h).mono ?_
      rintro r w' ⟨rfl, h2, h3⟩
      exact ⟨none, 0, rfl, OwnB.nil _ _, h2, h3⟩
    · obtain ⟨x, rfl⟩ := Int.eq_ofNat_of_zero_le (show 0 ≤ x by omega)
      have hx' : x ≤ l.length := by omega
      obtain ⟨h1, h2, h3⟩ := rBytes_ok hx'
      rw [h1, h2, h3]
      exact bytesB_ok g l x hx' w h hl
  · obtain ⟨h1, h2, h3⟩ := rBytes_err (l := l) (x := x) he
    rw [h1, h2, h3]
    refine (bytes_err g l e he x w h.isR).mono ?_
    rintro r w' ⟨rfl, rfl⟩
    exact ⟨none, 0, rfl, OwnB.nil _ _, h, World.grownBy.refl _ _⟩

end Go.Proofs.Ytebcginnnjigjaa

end
