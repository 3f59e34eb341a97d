/- The contracts of word.Reader's methods, with the bytes in blocks ahead of the reader's own. -/
import Derived.Test.YtcahflddafdhfaaReader
open Go.RowKit
namespace Go.Proofs.Ytcahflddafdhfaa

/-- Two worlds with the same blocks, up to B. -/
def SameTo (B : Nat) (w W : World) : Prop := ∀ k, k < B → W.heap[k]? = w.heap[k]?
theorem SameTo.refl (B : Nat) (w : World) : SameTo B w w := fun _ _ => rfl
theorem SameTo.trans {B : Nat} {a b c : World} (h : SameTo B a b) (k : SameTo B b c) : SameTo B a c := fun i hi => (k i hi).trans (h i hi)
theorem SameTo.grown {w w' : World} {g : Nat} (hg : g < w.heap.size) (h : w.grownBy w' (some g)) : SameTo g w w' := fun k hk => h.block k (by omega) (by simp; omega)

/-- Block g is a reader: the bytes l are left, in blocks ahead of g; e: why no more can be read. -/
def IsRB (w : World) (g : Nat) (l : List UInt8) (e : Nat) : Prop :=
  ∃ A c, w.heap[g]? = some (.cells #[.slice A l.length c, .int .i64 (e : Int)] 88 (0, 0)) ∧ (∀ W, SameTo g w W → Reads W 1 A l.length (bv l)) ∧ l.length ≤ c ∧ l.length ≤ maxLen
theorem IsRB.isR {w : World} {g : Nat} {l : List UInt8} {e : Nat} (h : IsRB w g l e) : IsR w g l e := by
  obtain ⟨A, c, h1, h2, h3, h4⟩ := h
  exact ⟨A, c, h1, h2 w (SameTo.refl _ _), h3, h4⟩
theorem IsRB.lt {w : World} {g : Nat} {l : List UInt8} {e : Nat} (h : IsRB w g l e) : g < w.heap.size := h.isR.lt
theorem IsRB.keep {w w' : World} {g : Nat} {l : List UInt8} {e : Nat} (h : IsRB w g l e) (h' : SameTo (g + 1) w w') : IsRB w' g l e := by
  obtain ⟨A, c, h1, h2, h3, h4⟩ := h
  exact ⟨A, c, (h' g (by omega)).trans h1, fun W hW => h2 W (SameTo.trans (fun k hk => h' k (by omega)) hW), h3, h4⟩
theorem IsRB.below {w w' : World} {g : Nat} {l : List UInt8} {e : Nat} (h : IsRB w g l e) (hb : Below w.heap.size w w') : IsRB w' g l e :=
  h.keep (fun k hk => hb.block k (by have := h.lt; omega))

theorem SameTo.set (w : World) (g i : Nat) (v : Value) : SameTo g w (w.setCell ⟨g, i, none⟩ v) := fun k hk => Below.heap_setCell w ⟨g, i, none⟩ v k (fun e => by have : k = g := e; omega)

theorem newB_any (A : Option Addr) (l : List UInt8) (c : Nat) (w : World) (hr : Reads w 1 A l.length (bv l)) (hl : l.length ≤ 140737488355328) :
    Calls Try.prog 38 #[.slice A l.length c] w fun e w' => ∃ g, e = .returned (.pointer (some ⟨g, 0, none⟩)) ∧ IsRB w' g l 0 ∧ w.heap.size ≤ g ∧ Below w.heap.size w w' := by
  have Hr := Lib.hid hr
  clear hr
  go_enter Try.func38, Try.ntmps38
  have ho : OwnB (w.alloc (.cells #[] 5)) w.heap.size (some ⟨w.heap.size, 0, none⟩) 0 [] := World.ownsRow_lit w #[] 0 (Nat.le_refl _) (Nat.zero_le _) rfl
  have Ho := Lib.hid ho
  clear ho
  go_wp2_with (at_builtin; refine wpList_append_bytes w w.heap.size rfl (.tmp 3) (.tmp 4) rfl (some ⟨w.heap.size, 0, none⟩) 0 [] rfl Ho.out A c l rfl (Hr.out.alloc _) (by simp; omega) ((Below.refl _ _).alloc (Nat.le_refl _) _) (by simp) ?_)
  intro A2 c2 L w2 hL hown2 hb2 hB2
  obtain rfl : L = l := by simpa using hL.out
  have Ho2 := Lib.hid hown2
  have Hb2 := Lib.hid hb2
  clear hown2 hb2 hL Hr Ho
  go_wp2
  go_ret
  refine ⟨w2.heap.size, rfl, ⟨A2, c2, heap_alloc_new _ _, fun W hW => ?_, Ho2.out.cap, Ho2.out.max⟩, hB2, Hb2.out.alloc hB2 _⟩
  refine ⟨Ho2.out.reads.1, fun h0 => ?_⟩
  obtain ⟨ad, e, hc⟩ := Ho2.out.reads.2 h0
  refine ⟨ad, e, fun j u hu => ?_⟩
  have h1 := hc j u hu
  have hlt := World.block_lt_of_cell? _ _ h1
  have h2 := hW _ hlt
  rw [heap_alloc_old _ _ hlt] at h2
  rw [← h1]
  unfold World.cell?
  rw [h2]

theorem numB_any (g : Nat) (l : List UInt8) (e : Nat) (x : Int) (w : World) (h : IsRB w g l e) :
    Calls Try.prog 40 #[.pointer (some ⟨g, 0, none⟩), .int .i64 x] w fun r w' => r = .returned (.int .u64 (rNum l e x : Nat)) ∧ IsRB w' g (rNumL l e x) (rNumE l e x) ∧ w.grownBy w' (some g) := by
  obtain ⟨A, c, h1, h2', h3, h4⟩ := id h
  have h2 := h2' w (SameTo.refl _ _)
  have HS := Lib.hid h2'
  clear h2'
  have hc0 : w.cell? ⟨g, 0, none⟩ = some (.slice A l.length c) := by rw [cell_of_row _ _ _ _ _ _ h1]; rfl
  have hc1 : w.cell? ⟨g, 1, none⟩ = some (.int .i64 e) := by rw [cell_of_row _ _ _ _ _ _ h1]; rfl
  have hf0 : w.frozen? ⟨g, 0, none⟩ = false := frozen_of_row _ _ _ _ _ h1
  have hf1 : w.frozen? ⟨g, 1, none⟩ = false := frozen_of_row _ _ _ _ _ h1
  have H := Lib.hid h
  have H1 := Lib.hid h1
  have H2 := Lib.hid h2
  clear h h1 h2
  by_cases he : e = 0
  · subst he
    by_cases hE : gErr l.length 0 x = 0
    · have hx : 1 ≤ x ∧ x ≤ 8 ∧ x ≤ l.length := by unfold gErr at hE; split at hE <;> first | omega | (split at hE <;> omega)
      obtain ⟨x, rfl⟩ := Int.eq_ofNat_of_zero_le (show 0 ≤ x by omega)
      obtain ⟨A', hcut, hA'⟩ := cutB_from A c l x (by omega) h3
      have HA' := Lib.hid (fun W (hW : SameTo g w W) => hA' W (HS.out W hW))
      have HE := Lib.hid hE
      have hx1 : x ≤ l.length := by omega
      clear hA' hE hx
      go_enter Try.func40, Try.ntmps40
      go_wp2
      refine wp_scope_once 0 rfl ?_
      go_wp2_with fail
      refine (get_any A l c 0 x w H2.out h3 h4).mono ?_
      rintro e1 w1 ⟨rfl, rfl⟩
      rw [HE.out]
      go_wp2
      rw [jump_ret]
      go_ret
      refine ⟨by rw [rNum, if_pos rfl]; rfl, ?_, grownBy_set _ _ _⟩
      rw [rNumL, rNumE, if_pos rfl, if_pos ⟨rfl, HE.out⟩, HE.out, Int.toNat_natCast]
      refine ⟨A', c - x, ?_, fun W hW => HA'.out W ((SameTo.set w g 0 _).trans hW), by rw [List.length_drop]; omega, by rw [List.length_drop]; omega⟩
      rw [heap_setCell_same _ _ _ _ _ _ H1.out, List.length_drop]; rfl
    · have HE := Lib.hid hE
      have hb : ((gErr l.length 0 x : Int) != 0) = true := by rw [bne_iff_ne]; omega
      clear hE
      go_enter Try.func40, Try.ntmps40
      go_wp2
      refine wp_scope_once 0 rfl ?_
      go_wp2_with fail
      refine (get_any A l c 0 x w H2.out h3 h4).mono ?_
      rintro e1 w1 ⟨rfl, rfl⟩
      go_wp2
      apply wp_goto
      simp only [Exit.then]
      refine jump_goto ?_
      go_wp2
      rw [Exit.noGoto_ret]
      go_ret
      refine ⟨by rw [rNum, if_pos rfl, gNum_bad HE.out]; rfl, ?_, grownBy_set _ _ _⟩
      rw [rNumL, rNumE, if_pos rfl, if_neg (fun h => HE.out h.2)]
      refine ⟨A, c, ?_, fun W hW => HS.out W ((SameTo.set w g 1 _).trans hW), h3, h4⟩
      rw [heap_setCell_same _ _ _ _ _ _ H1.out]; rfl
  · have hb : ((e : Int) != 0) = true := by rw [bne_iff_ne]; omega
    have He := Lib.hid he
    clear he
    go_enter Try.func40, Try.ntmps40
    go_wp2
    apply wp_scope_straight
    go_wp2
    rw [Exit.noGoto_ret]
    go_ret
    refine ⟨?_, ?_, World.grownBy.refl _ _⟩
    · rw [rNum, if_neg He.out]; rfl
    · rw [rNumL, rNumE, if_neg He.out, if_neg (fun h => He.out h.1)]; exact H.out


theorem bytesB_bad (g : Nat) (l : List UInt8) (x : Int) (hx : x < 0 ∨ (l.length : Int) < x) (w : World) (h : IsRB w g l 0) :
    Calls Try.prog 41 #[.pointer (some ⟨g, 0, none⟩), .int .i64 x] w fun r w' => r = .returned (.slice none 0 0) ∧ IsRB w' g l (rBytesE l 0 x) ∧ w.grownBy w' (some g) := by
  obtain ⟨A, c, h1, h2', h3, h4⟩ := id h
  have h2 := h2' w (SameTo.refl _ _)
  have HS := Lib.hid h2'
  clear h2'
  have hc0 : w.cell? ⟨g, 0, none⟩ = some (.slice A l.length c) := by rw [cell_of_row _ _ _ _ _ _ h1]; rfl
  have hc1 : w.cell? ⟨g, 1, none⟩ = some (.int .i64 0) := by rw [cell_of_row _ _ _ _ _ _ h1]; rfl
  have hf1 : w.frozen? ⟨g, 1, none⟩ = false := frozen_of_row _ _ _ _ _ h1
  have H1 := Lib.hid h1
  have H2 := Lib.hid h2
  clear h h1 h2
  by_cases hx0 : x < 0
  · clear hx
    go_enter Try.func41, Try.ntmps41
    go_wp2
    refine wp_scope_once 0 rfl ?_
    go_wp2
    apply wp_goto
    simp only [Exit.then]
    refine jump_goto ?_
    go_wp2
    rw [Exit.noGoto_ret]
    go_ret
    refine ⟨rfl, ?_, grownBy_set _ _ _⟩
    rw [(rBytes_neg hx0).2.1]
    refine ⟨A, c, ?_, fun W hW => HS.out W ((SameTo.set w g 1 _).trans hW), h3, h4⟩
    rw [heap_setCell_same _ _ _ _ _ _ H1.out]; rfl
  · have hxl : (l.length : Int) < x := by omega
    clear hx
    go_enter Try.func41, Try.ntmps41
    go_wp2
    refine wp_scope_once 0 rfl ?_
    go_wp2
    apply wp_goto
    simp only [Exit.then]
    refine jump_goto ?_
    go_wp2
    rw [Exit.noGoto_ret]
    go_ret
    refine ⟨rfl, ?_, grownBy_set _ _ _⟩
    rw [(rBytes_short hxl).2.1]
    refine ⟨A, c, ?_, fun W hW => HS.out W ((SameTo.set w g 1 _).trans hW), h3, h4⟩
    rw [heap_setCell_same _ _ _ _ _ _ H1.out]; rfl

theorem bytesB_ok (g : Nat) (l : List UInt8) (x : Nat) (hx : x ≤ l.length) (w : World) (h : IsRB w g l 0) (hl : l.length ≤ 140737488355328) :
    Calls Try.prog 41 #[.pointer (some ⟨g, 0, none⟩), .int .i64 (x : Int)] w fun r w' => ∃ A1 c1, r = .returned (.slice A1 (l.take x).length c1) ∧ OwnB w' w.heap.size A1 c1 (l.take x) ∧ IsRB w' g (l.drop x) 0 ∧ w.grownBy w' (some g) := by
  obtain ⟨A, c, h1, h2', h3, h4⟩ := id h
  have h2 := h2' w (SameTo.refl _ _)
  have HS := Lib.hid h2'
  clear h2'
  have hc0 : w.cell? ⟨g, 0, none⟩ = some (.slice A l.length c) := by rw [cell_of_row _ _ _ _ _ _ h1]; rfl
  have hc1 : w.cell? ⟨g, 1, none⟩ = some (.int .i64 0) := by rw [cell_of_row _ _ _ _ _ _ h1]; rfl
  have hf0 : w.frozen? ⟨g, 0, none⟩ = false := frozen_of_row _ _ _ _ _ h1
  obtain ⟨A', hcut, hA'⟩ := cutB_from A c l x hx h3
  obtain ⟨hto, hA''⟩ := cutB_to A c l x hx h3
  have hgs : g < w.heap.size := h.lt
  have H1 := Lib.hid h1
  have H2 := Lib.hid h2
  have H3 := Lib.hid (fun W (hW : SameTo g w W) => hA' W (HS.out W hW))
  have H4 := Lib.hid (hA'' w h2)
  have hlt : (l.take x).length = x := by simp; omega
  have Hlt := Lib.hid hlt
  clear h h1 h2 hA' hA'' hlt
  go_enter Try.func41, Try.ntmps41
  go_wp2
  refine wp_scope_once 0 rfl ?_
  go_wp2
  go_region_law (refine step_append_bytes w w.heap.size rfl (.tmp 26) (.tmp 32) rfl none 0 [] rfl (OwnB.nil _ _) A c (l.take x) (by rw [Hlt.out]; rfl) H4.out.drew (by simp; omega) ((Below.refl _ _).drew) (Nat.le_refl _) ?_; intro A1 c1 L w1 hL how hb hB; have hc0' := (hb.cell (p := ⟨g, 0, none⟩) hgs).trans hc0; have hf0' := (hb.frozen (p := ⟨g, 0, none⟩) hgs).trans hf0)
  all_goals
    obtain rfl : L = l.take x := by simpa using hL.out
    go_wp2
    rw [jump_ret]
    go_ret
    have h1 := (hb.block g hgs).trans H1.out
    refine ⟨A1, c1, rfl, ownsRow_setCell_below how (by exact hgs) _, ⟨A', c - x, ?_, fun W hW => H3.out W (SameTo.trans (fun k hk => hb.block k (by omega)) ((SameTo.set w1 g 0 _).trans hW)), by rw [List.length_drop]; omega, by rw [List.length_drop]; omega⟩, (grown_of_below hb _).trans (grownBy_set _ _ _)⟩
    rw [heap_setCell_same _ _ _ _ _ _ h1, List.length_drop]; rfl

theorem bytesB_any (g : Nat) (l : List UInt8) (e : Nat) (x : Int) (w : World) (h : IsRB w g l e) (hl : l.length ≤ 140737488355328) :
    Calls Try.prog 41 #[.pointer (some ⟨g, 0, none⟩), .int .i64 x] w fun r w' => ∃ A1 c1, r = .returned (.slice A1 (rBytes l e x).length c1) ∧ OwnB w' w.heap.size A1 c1 (rBytes l e x) ∧ IsRB w' g (rBytesL l e x) (rBytesE l e x) ∧ w.grownBy w' (some g) := by
  by_cases he : e = 0
  · subst he
    by_cases hx : x < 0 ∨ (l.length : Int) < x
    · have h1 : rBytes l 0 x = [] ∧ rBytesL l 0 x = l := by
        rcases hx with hx | hx
        · exact ⟨(rBytes_neg hx).1, (rBytes_neg hx).2.2⟩
        · exact ⟨(rBytes_short hx).1, (rBytes_short hx).2.2⟩
      rw [h1.1, h1.2]
      refine (bytesB_bad g l x hx w h).mono ?_
      rintro r w' ⟨rfl, h2, h3⟩
      exact ⟨none, 0, rfl, OwnB.nil _ _, h2, h3⟩
    · obtain ⟨x, rfl⟩ := Int.eq_ofNat_of_zero_le (show 0 ≤ x by omega)
      have hx' : x ≤ l.length := by omega
      obtain ⟨h1, h2, h3⟩ := rBytes_ok hx'
      rw [h1, h2, h3]
      exact bytesB_ok g l x hx' w h hl
  · obtain ⟨h1, h2, h3⟩ := rBytes_err (l := l) (x := x) he
    rw [h1, h2, h3]
    refine (bytes_err g l e he x w h.isR).mono ?_
    rintro r w' ⟨rfl, rfl⟩
    exact ⟨none, 0, rfl, OwnB.nil _ _, h, World.grownBy.refl _ _⟩

end Go.Proofs.Ytcahflddafdhfaa
