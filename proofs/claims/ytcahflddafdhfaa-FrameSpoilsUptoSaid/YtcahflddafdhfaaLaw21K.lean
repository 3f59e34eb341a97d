/- Laws of frames: what all of them use. -/
import Derived.Test.YtcahflddafdhfaaFr14
open Go.RowKit
namespace Go.Proofs.Ytcahflddafdhfaa

def fk : Fr := ⟨7, 3, 2, 1, 0, 0, 0, 0, 0, ⟨#[]⟩, []⟩
def fk2 : Fr := ⟨7, 0, 0, 0, 0, 0, 0, 1, 0, ⟨#[]⟩, []⟩
theorem fk_ok : FrOk fk ∧ putOk fk = true ∧ (bodyL fk).length = 0 := by
  refine ⟨⟨by decide, by decide, by decide, by decide⟩, ?_, rfl⟩
  unfold putOk
  rw [show bodyW fk = false from rfl, show told fk = fk from rfl, (alikeB_iff fk fk).2 rfl]
  rfl
theorem fk_len : (putL fk).length = 27 := by rw [putL_length fk_ok.2.1, fk_ok.2.2]
theorem fk2_ok : putOk fk2 = false := by
  unfold putOk
  have h : alikeB fk2 (told fk2) = false := by
    rw [Bool.eq_false_iff]
    intro h
    have h2 := congrArg Fr.i ((alikeB_iff _ _).1 h)
    exact absurd h2 (by decide)
  rw [h, Bool.and_false]
theorem getX_sm (l : List UInt8) : FrOk (getX l) ∧ FrSm (getX l) := by
  by_cases h : getE l = 0
  · rw [getX_ok h]; exact readF_ok l
  · rw [getX_bad h]
    exact ⟨⟨by decide, by decide, by decide, by decide⟩, by decide, by decide, fun t ht => by cases ht⟩
theorem known_put (W : World) : Calls Try.prog 20 #[.agg #[.int .i64 7, .int .u64 3, .int .u64 2, .int .u32 1, .int .u32 0, .int .i64 0, .int .i64 0, .int .i64 0, .int .i64 0, .string ⟨#[]⟩, .slice none 0 0]] W fun e w' => ∃ A1 c1, e = .returned (.tuple #[.slice A1 27 c1, .int .i64 0]) ∧ ByteOut W w' A1 c1 (putL fk) := by
  refine (show Calls Try.prog 20 #[.agg #[.int .i64 7, .int .u64 3, .int .u64 2, .int .u32 1, .int .u32 0, .int .i64 0, .int .i64 0, .int .i64 0, .int .i64 0, .string ⟨#[]⟩, .slice none 0 0]] W _ from framePut_any W fk none 0 (Reads.nil _ _ _) (by decide) (by decide) fk_ok.1).mono ?_
  rintro e w' ⟨A1, c1, rfl, h⟩
  refine ⟨A1, c1, ?_, h⟩
  rw [fk_len]
  unfold putE
  rw [if_pos fk_ok.2.1]
  rfl
theorem known_put2 (W : World) : Calls Try.prog 20 #[.agg #[.int .i64 7, .int .u64 0, .int .u64 0, .int .u32 0, .int .u32 0, .int .i64 0, .int .i64 0, .int .i64 1, .int .i64 0, .string ⟨#[]⟩, .slice none 0 0]] W fun e w' => ∃ A1 c1, e = .returned (.tuple #[.slice A1 0 c1, .int .i64 6]) ∧ Below W.heap.size W w' := by
  refine (show Calls Try.prog 20 #[.agg #[.int .i64 7, .int .u64 0, .int .u64 0, .int .u32 0, .int .u32 0, .int .i64 0, .int .i64 0, .int .i64 1, .int .i64 0, .string ⟨#[]⟩, .slice none 0 0]] W _ from framePut_any W fk2 none 0 (Reads.nil _ _ _) (by decide) (by decide) ⟨by decide, by decide, by decide, by decide⟩).mono ?_
  rintro e w' ⟨A1, c1, rfl, h⟩
  refine ⟨A1, c1, ?_, h.2.2⟩
  unfold putE putL
  rw [fk2_ok]
  rfl
theorem known_get {W0 W : World} {A1 : Option Addr} {c1 : Nat} (h : ByteOut W0 W A1 c1 (putL fk)) : Calls Try.prog 24 #[.slice A1 27 c1] W fun e w' => ∃ A c, e = .returned (.tuple #[.agg #[.int .i64 7, .int .u64 3, .int .u64 2, .int .u32 1, .int .u32 0, .int .i64 0, .int .i64 0, .int .i64 0, .int .i64 0, .string ⟨#[]⟩, .slice A 0 c], .int .i64 0]) ∧ Below W.heap.size W w' := by
  have h1 := frGet_any W A1 c1 (putL fk) h.1.reads h.1.cap (by rw [fk_len]; decide)
  rw [fk_len, (get_put fk_ok.1 fk_ok.2.1).1, (get_put fk_ok.1 fk_ok.2.1).2] at h1
  refine h1.mono ?_
  rintro e w' ⟨A, c, rfl, hs⟩
  exact ⟨A, c, rfl, hs.2.2⟩
theorem known_alike (W : World) (A : Option Addr) (c : Nat) : Calls Try.prog 22 #[.agg #[.int .i64 7, .int .u64 3, .int .u64 2, .int .u32 1, .int .u32 0, .int .i64 0, .int .i64 0, .int .i64 0, .int .i64 0, .string ⟨#[]⟩, .slice none 0 0], .agg #[.int .i64 7, .int .u64 3, .int .u64 2, .int .u32 1, .int .u32 0, .int .i64 0, .int .i64 0, .int .i64 0, .int .i64 0, .string ⟨#[]⟩, .slice A 0 c]] W fun e w' => e = .returned (.bool true) ∧ Below W.heap.size W w' := by
  have h := frameAlike_any fk fk none A 0 c W (Reads.nil _ _ _) (Reads.nil _ _ _) (by decide)
  rw [(alikeB_iff fk fk).2 rfl] at h
  exact h
theorem known_alike2 (W : World) : Calls Try.prog 22 #[.agg #[.int .i64 7, .int .u64 3, .int .u64 2, .int .u32 1, .int .u32 0, .int .i64 0, .int .i64 0, .int .i64 0, .int .i64 0, .string ⟨#[]⟩, .slice none 0 0], .agg #[.int .i64 0, .int .u64 0, .int .u64 0, .int .u32 0, .int .u32 0, .int .i64 0, .int .i64 0, .int .i64 0, .int .i64 0, .string ⟨#[]⟩, .slice none 0 0]] W fun e w' => e = .returned (.bool false) ∧ Below W.heap.size W w' := by
  have h := frameAlike_any fk fr0 none none 0 0 W (Reads.nil _ _ _) (Reads.nil _ _ _) (by decide)
  rw [show alikeB fk fr0 = false from by
    rw [Bool.eq_false_iff]
    intro h
    have h2 := congrArg Fr.k ((alikeB_iff _ _).1 h)
    exact absurd h2 (by decide)] at h
  exact h
set_option maxHeartbeats 2000000 in
set_option maxRecDepth 100000 in
theorem known_any (w : World) : Calls Try.prog 19 #[] w fun e w' => e = .returned (.bool true) ∧ Below w.heap.size w w' := by
  obtain ⟨hb, hg, hs⟩ := alloc1 w #[.int .i64 7, .int .u64 3, .int .u64 2, .int .u32 1, .int .u32 0, .int .i64 0, .int .i64 0, .int .i64 0, .int .i64 0, .string ⟨#[]⟩, .slice none 0 0] 41
  have HB := Lib.hid hb
  have HG := Lib.hid hg
  clear hb hg hs
  go_enter Try.func19, Try.ntmps19
  go_wp2_with fail
  refine (known_put _).mono ?_
  rintro e w1 ⟨A1, c1, rfl, hO⟩
  have HO := Lib.hid hO
  have HG := Lib.hid ((hO.2.2.block _ (Array.getElem?_eq_some_iff.1 HG.out).1).trans HG.out)
  have HB := Lib.hid (HB.out.trans (hO.2.2.mono HB.out.size))
  clear hO
  go_wp2_with fail
  refine (known_get HO.out).mono ?_
  rintro e w2 ⟨A, c, rfl, hb⟩
  have HG := Lib.hid ((hb.block _ (Array.getElem?_eq_some_iff.1 HG.out).1).trans HG.out)
  have HB := Lib.hid (HB.out.trans (hb.mono HB.out.size))
  clear hb HO
  go_wp2_with fail
  obtain ⟨hb, hg, hs⟩ := alloc1 w2 #[.int .i64 7, .int .u64 3, .int .u64 2, .int .u32 1, .int .u32 0, .int .i64 0, .int .i64 0, .int .i64 0, .int .i64 0, .string ⟨#[]⟩, .slice A 0 c] 41
  have HG := Lib.hid ((hb.block _ (Array.getElem?_eq_some_iff.1 HG.out).1).trans HG.out)
  have HB := Lib.hid (HB.out.trans (hb.mono HB.out.size))
  have HH := Lib.hid hg
  generalize w2.alloc (.cells #[.int .i64 7, .int .u64 3, .int .u64 2, .int .u32 1, .int .u32 0, .int .i64 0, .int .i64 0, .int .i64 0, .int .i64 0, .string ⟨#[]⟩, .slice A 0 c] 41) = w3 at HG HB HH hb hg hs ⊢
  generalize w2.heap.size = g at HH hb hg hs ⊢
  clear hb hg hs
  refine (known_put2 _).mono ?_
  rintro e w4 ⟨A2, c2, rfl, hb⟩
  have HG := Lib.hid ((hb.block _ (Array.getElem?_eq_some_iff.1 HG.out).1).trans HG.out)
  have HH := Lib.hid ((hb.block _ (Array.getElem?_eq_some_iff.1 HH.out).1).trans HH.out)
  have HB := Lib.hid (HB.out.trans (hb.mono HB.out.size))
  clear hb
  obtain ⟨d0, d1, d2, d3, d4, d5, d6, d7, d8, d9, d10⟩ := cells11 HG.out
  obtain ⟨e0, e1, e2, e3, e4, e5, e6, e7, e8, e9, e10⟩ := cells11 HH.out
  go_wp2_with fail
  clear d0 d1 d2 d3 d4 d5 d6 d7 d8 d9 d10 e0 e1 e2 e3 e4 e5 e6 e7 e8 e9 e10
  refine (known_alike _ _ _).mono ?_
  rintro e w5 ⟨rfl, hb⟩
  have HG := Lib.hid ((hb.block _ (Array.getElem?_eq_some_iff.1 HG.out).1).trans HG.out)
  have HH := Lib.hid ((hb.block _ (Array.getElem?_eq_some_iff.1 HH.out).1).trans HH.out)
  have HB := Lib.hid (HB.out.trans (hb.mono HB.out.size))
  clear hb
  obtain ⟨d0, d1, d2, d3, d4, d5, d6, d7, d8, d9, d10⟩ := cells11 HG.out
  go_wp2_with fail
  clear d0 d1 d2 d3 d4 d5 d6 d7 d8 d9 d10
  refine (known_alike2 _).mono ?_
  rintro e w6 ⟨rfl, hb⟩
  have HG := Lib.hid ((hb.block _ (Array.getElem?_eq_some_iff.1 HG.out).1).trans HG.out)
  have HH := Lib.hid ((hb.block _ (Array.getElem?_eq_some_iff.1 HH.out).1).trans HH.out)
  have HB := Lib.hid (HB.out.trans (hb.mono HB.out.size))
  clear hb
  go_wp2_with fail
  go_ret
  exact ⟨rfl, HB.out⟩
/-- Few parts, with short texts. -/
def shortB (x : Fr) : Bool := decide (x.l.length ≤ 20) && decide (x.d.size ≤ 200) && x.l.all (fun s => decide (s.size ≤ 200))
theorem shortB_lens {x : Fr} (h : shortB x = true) : x.l.length ≤ 20 ∧ x.d.size ≤ 200 ∧ (bodyL x).length ≤ 100000000 := by
  unfold shortB at h
  simp only [Bool.and_eq_true, decide_eq_true_eq, List.all_eq_true] at h
  obtain ⟨⟨h1, h2⟩, h3⟩ := h
  have h4 := bodyL_len x
  have h5 : ∀ (l : List ByteArray), (∀ s ∈ l, s.size ≤ 200) → (l.flatMap bl).length ≤ 200 * l.length := by
    intro l
    induction l with
    | nil => simp
    | cons a l ih =>
      intro h
      have := ih (fun s hs => h s (List.mem_cons_of_mem _ hs))
      have := h a (List.mem_cons_self ..)
      rw [List.flatMap_cons, List.length_append, List.length_cons, bl_length]
      omega
  have := h5 x.l h3
  exact ⟨h1, h2, by omega⟩
set_option maxHeartbeats 2000000 in
set_option maxRecDepth 100000 in
theorem short_any (w : World) (x : Fr) (A : Option Addr) (c : Nat) (hr : Reads w 1 A x.l.length (sts x.l)) : Calls Try.prog 18 #[.agg (x.cells A c)] w fun e w' => e = .returned (.bool (shortB x)) ∧ Below w.heap.size w w' := by
  obtain ⟨hb, hg, hs⟩ := alloc1 w (x.cells A c) 41
  have Hr := Lib.hid (hr.below hb)
  unfold Fr.cells at hb hg Hr ⊢
  have HB := Lib.hid hb
  have HG := Lib.hid hg
  clear hr hb hg hs
  by_cases h1 : x.l.length ≤ 20
  · by_cases h2 : x.d.size ≤ 200
    · have HV := Lib.hid (show shortB x = x.l.all (fun s => decide (s.size ≤ 200)) by unfold shortB; rw [decide_eq_true h1, decide_eq_true h2]; rfl)
      have h3 : ¬ 20 < x.l.length := by omega
      have h4 : ¬ 200 < x.d.size := by omega
      go_enter Try.func18, Try.ntmps18
      go_wp2_with fail
      clear h2 h3 h4
      generalize w.alloc (.cells #[.int .i64 x.k, .int .u64 (x.s : Int), .int .u64 (x.e : Int), .int .u32 (x.q : Int), .int .u32 (x.v : Int), .int .i64 x.n, .int .i64 x.f, .int .i64 x.i, .int .i64 x.c, .string x.d, .slice A x.l.length c] 41) = w1 at HB HG Hr ⊢
      have d10 := (cells11 HG.out).2.2.2.2.2.2.2.2.2.2
      go_loop [3] (fun i => ∃ k : Nat, k ≤ x.l.length ∧ i = .int .i64 k ∧ Hid ((x.l.take k).all (fun s => decide (s.size ≤ 200)) = true)) (fun i => x.l.length - (intOf i).toNat)
      case atStart => exact ⟨0, by omega, rfl, rfl⟩
      case round =>
        obtain ⟨k, hk, rfl, HA⟩ := hrel
        by_cases hlt : k < x.l.length
        · obtain ⟨ad, rfl, hc⟩ := str_cell Hr.out hlt
          by_cases hsz : x.l[k].size ≤ 200
          · have HN := Lib.hid (show (x.l.take (k + 1)).all (fun s => decide (s.size ≤ 200)) = true by rw [List.take_succ_eq_append_getElem hlt, List.all_append, HA.out]; simpa using hsz)
            have hn : ¬ 200 < x.l[k].size := by omega
            generalize x.l[k] = y at hc hn
            clear hsz
            go_wp2_with fail
            case roundEnd => exact ⟨⟨k + 1, by omega, by push_cast; rfl, HN⟩, by simp only [intOf]; omega⟩
          · have HN := Lib.hid (show x.l.all (fun s => decide (s.size ≤ 200)) = false by
              rw [List.all_eq_false]
              exact ⟨_, List.getElem_mem hlt, by simpa using hsz⟩)
            have hn : 200 < x.l[k].size := by omega
            generalize x.l[k] = y at hc hn
            clear hsz
            go_wp2_with fail
            go_ret
            exact ⟨by rw [HV.out, HN.out]; rfl, HB.out⟩
        · obtain rfl : k = x.l.length := by omega
          have HN := Lib.hid (show x.l.all (fun s => decide (s.size ≤ 200)) = true by have h := HA.out; rwa [List.take_length] at h)
          go_wp2_with fail
          go_ret
          exact ⟨by rw [HV.out, HN.out]; rfl, HB.out⟩
    · have HV := Lib.hid (show shortB x = false by unfold shortB; rw [decide_eq_false h2]; simp)
      have h3 : ¬ 20 < x.l.length := by omega
      have h4 : 200 < x.d.size := by omega
      go_enter Try.func18, Try.ntmps18
      go_wp2_with fail
      go_ret
      exact ⟨by rw [HV.out]; rfl, HB.out⟩
  · have HV := Lib.hid (show shortB x = false by unfold shortB; rw [decide_eq_false h1]; rfl)
    have h3 : 20 < x.l.length := by omega
    go_enter Try.func18, Try.ntmps18
    go_wp2_with fail
    go_ret
    exact ⟨by rw [HV.out]; rfl, HB.out⟩
end Go.Proofs.Ytcahflddafdhfaa
