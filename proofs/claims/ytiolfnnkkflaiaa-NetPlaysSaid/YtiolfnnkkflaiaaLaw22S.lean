/- The law of what was sent; the laws' ground: what all nets keep. -/
import Derived.Test.YtiolfnnkkflaiaaShort
open Go.RowKit
namespace Go.Proofs.Ytiolfnnkkflaiaa

/-- What is sent came, was lost, or is on its way; behind so many acts. -/
def invN (σ : Nt) (k : Nat) : Prop := σ.s = σ.c + σ.l + (σ.ps.length : Int) ∧ 0 ≤ σ.c ∧ 0 ≤ σ.l ∧ σ.s ≤ (k : Int) ∧ σ.ps.length ≤ 60
theorem invN_none : invN Nt.none 0 := ⟨rfl, Int.le_refl _, Int.le_refl _, Int.le_refl _, Nat.zero_le _⟩
theorem invN.ok {σ : Nt} {k : Nat} (h : invN σ k) (hk : k ≤ 1000) : σ.ok := by
  obtain ⟨h1, h2, h3, h4, h5⟩ := h
  exact ⟨⟨by omega, by omega⟩, ⟨by omega, by omega⟩, ⟨by omega, by omega⟩, h5⟩
theorem invN.step {σ : Nt} {k : Nat} (h : invN σ k) (a : ActV) : invN (stepN σ a) (k + 1) := by
  have h' : invN σ (k + 1) := ⟨h.1, h.2.1, h.2.2.1, by have := h.2.2.2.1; push_cast; omega, h.2.2.2.2⟩
  obtain ⟨h1, h2, h3, h4, h5⟩ := h
  unfold stepN
  split
  · unfold sendN
    split
    · exact h'
    · split
      · refine ⟨?_, h2, ?_, ?_, h5⟩ <;> simp only <;> push_cast <;> omega
      · refine ⟨?_, h2, h3, ?_, ?_⟩ <;> simp only [List.length_append, List.length_cons, List.length_nil] <;> push_cast <;> omega
  split
  · exact h'
  split
  · by_cases hin : inN σ a.i
    · obtain ⟨j, hj, e⟩ := inN_nat hin
      rw [e, takeN_in hj]
      have hl : (σ.ps.eraseIdx j).length = σ.ps.length - 1 := by rw [List.length_eraseIdx, if_pos hj]
      refine ⟨?_, ?_, h3, ?_, ?_⟩ <;> simp only [hl] <;> push_cast <;> omega
    · rw [takeN_out hin]; exact h'
  split
  · by_cases hin : inN σ a.i
    · obtain ⟨j, hj, e⟩ := inN_nat hin
      rw [e, loseN_in hj]
      have hl : (σ.ps.eraseIdx j).length = σ.ps.length - 1 := by rw [List.length_eraseIdx, if_pos hj]
      refine ⟨?_, h2, ?_, ?_, ?_⟩ <;> simp only [hl] <;> push_cast <;> omega
    · rw [loseN_out hin]; exact h'
  split
  · unfold twiceN
    split
    · rename_i hc
      refine ⟨?_, h2, h3, ?_, ?_⟩ <;> simp only [List.length_append, List.length_cons, List.length_nil] <;> push_cast <;> omega
    · exact h'
  split
  · unfold cutN
    split
    · refine ⟨?_, h2, h3, ?_, ?_⟩ <;> simp only [List.length_set] <;> push_cast <;> omega
    · exact h'
  · unfold dropN
    refine ⟨?_, h2, ?_, ?_, Nat.zero_le _⟩ <;> simp only [List.length_nil] <;> push_cast <;> omega

/-- Both nets stand above B; all below it is as it was. -/
structure DuoB (B : Nat) (w0 w : World) (g : Nat) (A : Option Addr) (c : Nat) (g' : Nat) (A' : Option Addr) (c' : Nat) (σ : Nt) : Prop where
  d : Duo w g A c g' A' c' σ σ
  b : Below B w0 w
  f : ∀ i, F2 g A g' A' i → B ≤ i
theorem DuoB.next {B : Nat} {w0 w w' : World} {g : Nat} {A : Option Addr} {c : Nat} {g' : Nat} {A' : Option Addr} {c' : Nat} {σ σ' : Nt} (h : DuoB B w0 w g A c g' A' c' σ) (hB : B ≤ w0.heap.size) (hp : DuoPost w g A g' A' σ' w') :
    ∃ A1 c1 A2 c2, DuoB B w0 w' g A1 c1 g' A2 c2 σ' := by
  obtain ⟨A1, c1, A2, c2, hd, n1, n2, C⟩ := hp
  have hs : B ≤ w.heap.size := Nat.le_trans hB h.b.size
  refine ⟨A1, c1, A2, c2, hd, h.b.trans (C.below (fun i hi hf => by have := h.f i hf; omega) hs), fun i hi => ?_⟩
  rcases hi with (hi | hi) | (hi | hi)
  · exact h.f i (.inl (.inl hi))
  · rcases n1 i hi with h1 | h1
    · exact h.f i (.inl (.inr h1))
    · omega
  · exact h.f i (.inr (.inl hi))
  · rcases n2 i hi with h1 | h1
    · exact h.f i (.inr (.inr h1))
    · omega
theorem DuoB.keep {B : Nat} {w0 w w' : World} {g : Nat} {A : Option Addr} {c : Nat} {g' : Nat} {A' : Option Addr} {c' : Nat} {σ : Nt} (h : DuoB B w0 w g A c g' A' c' σ) (hB : B ≤ w0.heap.size) (hb : Below w.heap.size w w') : DuoB B w0 w' g A c g' A' c' σ :=
  ⟨h.d.chg (F := fun _ => False) (.of_below hb) (fun _ _ f => f), h.b.trans (hb.mono (B' := B) (Nat.le_trans hB h.b.size)), h.f⟩

/-- Both nets at the start. -/
theorem duo_start (w w1 : World) (hN : NetP w1 w.heap.size none 0 Nt.none) (hb : Below w.heap.size w w1) (hs : w1.heap.size = w.heap.size + 1) :
    DuoB w.heap.size w (w1.alloc (.cells #[.slice none 0 0, .int .i64 0, .int .i64 0, .int .i64 0] 47)) w.heap.size none 0 (w.heap.size + 1) none 0 Nt.none := by
  obtain ⟨hb2, hg2, hs2⟩ := alloc1 w1 #[.slice none 0 0, .int .i64 0, .int .i64 0, .int .i64 0] 47
  rw [hs] at hg2
  refine ⟨⟨hN.chg (F := fun _ => False) (.of_below hb2) (fun _ _ f => f), ⟨hg2, PRow.nil _, by simp [blk]⟩, fun i hi hj => ?_⟩, hb.trans (hb2.mono (B' := w.heap.size) hb.size), fun i hi => ?_⟩
  · rcases hi with rfl | hi
    · rcases hj with hj | hj
      · omega
      · simp [blk] at hj
    · simp [blk] at hi
  · rcases hi with (hi | hi) | (hi | hi)
    · omega
    · simp [blk] at hi
    · omega
    · simp [blk] at hi

set_option maxHeartbeats 4000000 in
set_option maxRecDepth 100000 in
theorem netSums_any (A0 : Option Addr) (ls : List ActV) (c0 : Nat) (w : World) (hr : Reads w 5 A0 ls.length (avs ls)) :
    Calls Try.prog 5 #[.slice A0 ls.length c0] w fun e w' => e = .returned (.bool true) ∧ Below w.heap.size w w' := by
  have HS := Lib.hid (short_any w A0 ls c0 hr)
  have Hr := Lib.hid hr
  clear hr
  cases hsh : shortB ls with
  | false =>
    rw [hsh] at HS
    go_enter Try.func5, Try.ntmps5
    go_wp2_with fail
    refine HS.out.mono ?_
    rintro e w1 ⟨rfl, rfl⟩
    go_wp2_with fail
    refine (known22_any _).mono ?_
    rintro e w1 ⟨rfl, hb⟩
    go_wp2_with fail
    go_ret
    exact ⟨rfl, hb⟩
  | true =>
    rw [hsh] at HS
    have hlen := shortB_len hsh
    clear hsh
    go_enter Try.func5, Try.ntmps5
    go_wp2_with fail
    refine HS.out.mono ?_
    rintro e w1 ⟨rfl, rfl⟩
    go_wp2_with fail
    refine (netNew_any w).mono ?_
    rintro e w1 ⟨rfl, hN, hb, hs⟩
    have H0 := Lib.hid (duo_start w w1 hN hb hs)
    obtain ⟨g', hg'⟩ : ∃ g', g' = w1.heap.size := ⟨_, rfl⟩
    have hgg : w.heap.size + 1 = g' := by omega
    rw [hgg] at H0
    clear hN hb hs hgg
    go_wp2_with fail
    rw [← hg']
    clear hg'
    generalize w1.alloc (.cells #[.slice none 0 0, .int .i64 0, .int .i64 0, .int .i64 0] 47) = w2 at H0 ⊢
    obtain ⟨g, hg⟩ : ∃ g, g = w.heap.size := ⟨_, rfl⟩
    rw [← hg] at H0 ⊢
    have HB := Lib.hid (Nat.le_of_eq hg)
    have Hg := Lib.hid hg
    clear hg HS
    go_loopw [5] (fun i wr => ∃ k : Nat, k ≤ ls.length ∧ i = .int .i64 k ∧ Hid (∃ A c A' c' σ, invN σ k ∧ DuoB g w wr g A c g' A' c' σ)) (fun i _ => ls.length - (intOf i).toNat)
    case atStart => exact ⟨0, Nat.zero_le _, rfl, Lib.hid ⟨none, 0, none, 0, Nt.none, invN_none, H0.out⟩⟩
    case round =>
      obtain ⟨k, hk, rfl, HI⟩ := hrel
      obtain ⟨A, c, A', c', σ, hinv, hduo⟩ := HI.out
      by_cases hlt : k < ls.length
      · have hrr := Hr.out.below (w' := wr) (by rw [← Hg.out]; exact hduo.b)
        obtain ⟨ad, rfl, d0, d1, d2, d3, d4⟩ := act_cells hrr hlt
        have HDo := Lib.hid (do_any wr g A c g' A' c' σ (hinv.ok (by omega)) hduo.d ls[k])
        have Hinv := Lib.hid (hinv.step ls[k])
        have HD := Lib.hid hduo
        generalize ls[k] = a at d0 d1 d2 d3 d4 HDo Hinv
        obtain ⟨kd, to, i, n, b⟩ := a
        simp only at d0 d1 d2 d3 d4
        unfold ActV.cells at HDo
        simp only at HDo
        clear hrr hinv hduo
        go_wp2_with fail
        refine HDo.out.mono ?_
        rintro e w3 ⟨rfl, hp⟩
        obtain ⟨A1, c1, A2, c2, hd⟩ := HD.out.next HB.out hp
        have HN := Lib.hid (netCounts_any w3 g A1 c1 _ hd.d.n)
        have Hd := Lib.hid hd
        clear hp hd d0 d1 d2 d3 d4 HDo
        generalize stepN σ ⟨kd, to, i, n, b⟩ = τ at Hinv HN Hd
        go_wp2_with fail
        refine HN.out.mono ?_
        rintro e w4 ⟨rfl, hb4⟩
        have Hd := Lib.hid (Hd.out.keep HB.out hb4)
        have HL := Lib.hid (netLen_any w4 g A1 c1 _ Hd.out.d.n)
        obtain ⟨e1, e2, e3, e4, e5⟩ := Hinv.out
        clear hb4
        go_wp2_with fail
        refine HL.out.mono ?_
        rintro e w5 ⟨rfl, rfl⟩
        go_wp2_with fail
        refine HL.out.mono ?_
        rintro e w5 ⟨rfl, rfl⟩
        go_wp2_with fail
        case roundEnd =>
          exact ⟨⟨k + 1, by omega, by push_cast; rfl, Lib.hid ⟨A1, c1, A2, c2, τ, Hinv.out, Hd.out⟩⟩, by simp only [intOf]; omega⟩
      · obtain rfl : k = ls.length := by omega
        have Hb := Lib.hid hduo.b
        clear hinv hduo
        go_wp2_with fail
        refine (known22_any _).mono ?_
        rintro e w5 ⟨rfl, hb⟩
        have Hb := Lib.hid (Hb.out.trans (hb.mono (B' := g) (by have := HB.out; have := Hb.out.size; omega)))
        clear hb
        go_wp2_with fail
        go_ret
        exact ⟨rfl, Hg.out ▸ Hb.out⟩
end Go.Proofs.Ytiolfnnkkflaiaa
