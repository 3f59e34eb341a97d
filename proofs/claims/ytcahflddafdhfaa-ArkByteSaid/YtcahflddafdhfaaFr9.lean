/- Reading frames: frame.Get walked. -/
import Derived.Test.YtcahflddafdhfaaFr8
import Derived.Test.YtcahflddafdhfaaCrc
open Go.RowKit
namespace Go.Proofs.Ytcahflddafdhfaa

theorem byte_cell {w : World} {A : Option Addr} {l : List UInt8} (h : Reads w 1 A l.length (bv l)) {k : Nat} (hk : k < l.length) : ∃ ad : Addr, A = some ad ∧ w.cell? (ad.add k) = some (.int .u8 (l[k].toNat : Int)) := by
  obtain ⟨ad, rfl, hc⟩ := h.2 (by omega)
  exact ⟨ad, rfl, hc _ _ (by simp [bv, hk])⟩
set_option maxRecDepth 100000 in
theorem equalBy_any (A B : Option Addr) (l m : List UInt8) (c d : Nat) (w : World) (hr : Reads w 1 A l.length (bv l)) (hs : Reads w 1 B m.length (bv m)) (hl : l.length ≤ 140737488355328) :
    Calls Try.prog 42 #[.slice A l.length c, .slice B m.length d] w fun e w' => e = .returned (.bool (decide (l = m))) ∧ Below w.heap.size w w' := by
  have Hr := Lib.hid hr
  have Hs := Lib.hid hs
  clear hr hs
  by_cases hlm : l.length = m.length
  · have Hlm := Lib.hid hlm
    have hb : ((l.length : Int) != (m.length : Int)) = false := by simp [hlm]
    generalize hn : m.length = n at *
    have Hn := Lib.hid hn
    subst hlm
    clear hn
    go_enter Try.func42, Try.ntmps42
    go_wp2_with fail
    clear hb
    go_loopw [13] (fun i wr => ∃ k : Nat, k ≤ l.length ∧ i = .int .i64 k ∧ Hid (∀ j, j < k → l[j]? = m[j]?) ∧ Hid (Below w.heap.size w wr)) (fun i _ => l.length - (intOf i).toNat)
    case atStart => exact ⟨0, by omega, rfl, (fun j hj => by omega), Below.refl _ _⟩
    case round =>
      obtain ⟨k, hk, rfl, Hp, Hb⟩ := hrel
      by_cases hlt : k < l.length
      · have hlm : k < m.length := by rw [Hn.out]; exact hlt
        obtain ⟨ad, rfl, hc⟩ := byte_cell (Hr.out.below Hb.out) hlt
        have Hs2 := Lib.hid (show Reads wr 1 B m.length (bv m) from (Hn.out ▸ Hs.out).below Hb.out)
        obtain ⟨bd, rfl, hd⟩ := byte_cell Hs2.out hlm
        have e1 : l[k]? = some l[k] := List.getElem?_eq_getElem hlt
        have e2 : m[k]? = some m[k] := List.getElem?_eq_getElem hlm
        generalize l[k] = x at hc e1
        generalize m[k] = y at hd e2
        have E1 := Lib.hid e1
        have E2 := Lib.hid e2
        clear e1 e2 hlm
        by_cases hxy : x = y
        · subst hxy
          go_wp2_with fail
          go_quiet (fail)
          clear hc hd
          go_wp2_with fail
          case roundEnd =>
            refine ⟨⟨k + 1, by omega, by push_cast; rfl, Lib.hid fun j hj => ?_, Lib.hid (Hb.out.trans ⟨rfl, rfl, rfl, Nat.le_refl _, fun _ _ => rfl⟩)⟩, by simp only [intOf]; omega⟩
            by_cases h : j = k
            · subst h; rw [E1.out, E2.out]
            · exact Hp.out j (by omega)
        · have hne : ((x.toNat : Int) != (y.toNat : Int)) = true := by rw [bne_iff_ne]; exact fun e => hxy (UInt8.toNat_inj.1 (by omega))
          have Hd : Hid (decide (l = m) = false) := Lib.hid (decide_eq_false fun h => hxy (by have h1 := E1.out; rw [h, E2.out] at h1; exact (Option.some.inj h1).symm))
          clear hxy
          go_wp2_with fail
          go_quiet (fail)
          clear hc hd
          go_wp2_with fail
          go_ret
          exact ⟨by rw [Hd.out]; rfl, Hb.out.trans ⟨rfl, rfl, rfl, Nat.le_refl _, fun _ _ => rfl⟩⟩
      · obtain rfl : k = l.length := by omega
        have Hd : Hid (decide (l = m) = true) := Lib.hid (decide_eq_true (List.ext_getElem? fun j => by
          by_cases h : j < l.length
          · exact Hp.out j h
          · rw [List.getElem?_eq_none (by omega), List.getElem?_eq_none (by rw [Hn.out]; omega)]))
        go_wp2_with fail
        go_ret
        exact ⟨by rw [Hd.out]; rfl, Hb.out⟩
  · have hb : ((l.length : Int) != (m.length : Int)) = true := by rw [bne_iff_ne]; omega
    have Hd : Hid (decide (l = m) = false) := Lib.hid (decide_eq_false fun h => hlm (by rw [h]))
    clear hlm
    go_enter Try.func42, Try.ntmps42
    go_wp2_with fail
    go_ret
    exact ⟨by rw [Hd.out]; rfl, Below.refl _ _⟩


theorem tN_size (s : RdS) (k : Nat) : (tN s k).size ≤ k := by
  unfold tN
  show (rBytes s.1 s.2 (k : Int)).toArray.size ≤ k
  unfold rBytes
  split
  · simp; omega
  · simp
theorem tList_sizes (s : RdS) (n : Nat) : ∀ x ∈ (tList s n).1, x.size ≤ 32 := by
  induction n with
  | zero => rw [tList_zero]; intro x hx; cases hx
  | succ n ih =>
    rw [tList_succ]
    intro x hx
    rcases List.mem_append.1 hx with h | h
    · exact ih x h
    · rw [List.mem_singleton.1 h]; exact tN_size _ _
theorem flat_size (l : List ByteArray) (h : ∀ x ∈ l, x.size ≤ 32) : (l.flatMap bl).length ≤ 32 * l.length := by
  induction l with
  | nil => simp
  | cons a l ih =>
    rw [List.flatMap_cons, List.length_append, List.length_cons, bl_length]
    have := ih (fun x hx => h x (List.mem_cons_of_mem _ hx))
    have := h a (List.mem_cons_self ..)
    omega
theorem bodyL_len (x : Fr) : (bodyL x).length ≤ 7 + x.d.size + (x.l.flatMap bl).length := by
  unfold bodyL
  repeat' split
  all_goals simp only [List.length_append, be_length, bl_length, List.length_nil]
  all_goals omega
/-- A frame that was read: sizes. -/
def FrSm (x : Fr) : Prop := x.d.size ≤ 64 ∧ x.l.length ≤ 255 ∧ (∀ t ∈ x.l, t.size ≤ 32)
theorem readF_ok (l : List UInt8) : FrOk (readF l).1 ∧ FrSm (readF l).1 := by
  have h8 : (256 : Nat) ^ 8 = 18446744073709551616 := by decide
  have h4 : (256 : Nat) ^ 4 = 4294967296 := by decide
  have a1 := nN_lt (nS (l, 0) 1) 8
  have a2 := nN_lt (nS (nS (l, 0) 1) 8) 8
  have a3 := nN_lt (nS (nS (nS (l, 0) 1) 8) 8) 4
  rw [h8] at a1 a2
  rw [h4] at a3
  unfold readF readB rdF
  dsimp only
  split
  · exact ⟨⟨a1, a2, a3, Nat.zero_lt_of_lt a3⟩, Nat.zero_le _, Nat.zero_le _, fun t ht => by cases ht⟩
  split
  · exact ⟨⟨a1, a2, a3, by have := nN_lt (rdS l) 4; rw [h4] at this; exact this⟩, Nat.le_trans (tN_size _ _) (by decide), Nat.zero_le _, fun t ht => by cases ht⟩
  split
  · exact ⟨⟨a1, a2, a3, Nat.zero_lt_of_lt a3⟩, Nat.zero_le _, Nat.zero_le _, fun t ht => by cases ht⟩
  split
  · refine ⟨⟨a1, a2, a3, Nat.zero_lt_of_lt a3⟩, Nat.zero_le _, ?_, ?_⟩
    · show (tList _ _).1.length ≤ 255
      rw [tList_len]
      have := nN_lt (nS (rdS l) 2) 1
      omega
    · exact tList_sizes _ _
  split
  · exact ⟨⟨a1, a2, a3, Nat.zero_lt_of_lt a3⟩, tN_size _ _, Nat.zero_le _, fun t ht => by cases ht⟩
  · exact ⟨⟨a1, a2, a3, Nat.zero_lt_of_lt a3⟩, Nat.zero_le _, Nat.zero_le _, fun t ht => by cases ht⟩
theorem FrSm.body {x : Fr} (h : FrSm x) : (bodyL x).length ≤ 100000000 := by
  have h1 := bodyL_len x
  have h2 := flat_size x.l h.2.2
  have h3 := h.1
  have h4 := h.2.1
  omega

def gLen (l : List UInt8) : Nat := gNum l 21 2
def getE (l : List UInt8) : Nat :=
  if l.length < 27 then 7 else if l.length < 27 + gLen l then 7 else if 27 + gLen l < l.length then 8
  else if gNum l (23 + gLen l : Nat) 4 ≠ crcAdd 0 (l.take (23 + gLen l)) then 9
  else if okS (readF l).2 = false then 6 else if putE (readF l).1 ≠ 0 ∨ l ≠ putL (readF l).1 then 6 else 0
def getX (l : List UInt8) : Fr := if getE l = 0 then (readF l).1 else fr0
theorem getX_bad {l : List UInt8} (h : getE l ≠ 0) : getX l = fr0 := by unfold getX; rw [if_neg h]
theorem getX_ok {l : List UInt8} (h : getE l = 0) : getX l = (readF l).1 := by unfold getX; rw [if_pos h]
section
variable {l : List UInt8}
theorem getE_1 (h1 : l.length < 27) : getE l = 7 := by unfold getE; rw [if_pos h1]
theorem getE_2 (h1 : ¬ l.length < 27) (h2 : l.length < 27 + gLen l) : getE l = 7 := by unfold getE; rw [if_neg h1, if_pos h2]
theorem getE_3 (h1 : ¬ l.length < 27) (h3 : 27 + gLen l < l.length) : getE l = 8 := by unfold getE; rw [if_neg h1, if_neg (by omega), if_pos h3]
theorem getE_4 (h1 : ¬ l.length < 27) (h3 : l.length = 27 + gLen l) (h4 : gNum l (23 + gLen l : Nat) 4 ≠ crcAdd 0 (l.take (23 + gLen l))) : getE l = 9 := by unfold getE; rw [if_neg h1, if_neg (by omega), if_neg (by omega), if_pos h4]
theorem getE_5 (h1 : ¬ l.length < 27) (h3 : l.length = 27 + gLen l) (h4 : gNum l (23 + gLen l : Nat) 4 = crcAdd 0 (l.take (23 + gLen l))) (h5 : okS (readF l).2 = false) : getE l = 6 := by unfold getE; rw [if_neg h1, if_neg (by omega), if_neg (by omega), if_neg (fun h => h h4), if_pos h5]
theorem getE_6 (h1 : ¬ l.length < 27) (h3 : l.length = 27 + gLen l) (h4 : gNum l (23 + gLen l : Nat) 4 = crcAdd 0 (l.take (23 + gLen l))) (h5 : okS (readF l).2 = true) (h6 : putE (readF l).1 ≠ 0 ∨ l ≠ putL (readF l).1) : getE l = 6 := by unfold getE; rw [if_neg h1, if_neg (by omega), if_neg (by omega), if_neg (fun h => h h4), if_neg (by rw [h5]; decide), if_pos h6]
theorem getE_7 (h1 : ¬ l.length < 27) (h3 : l.length = 27 + gLen l) (h4 : gNum l (23 + gLen l : Nat) 4 = crcAdd 0 (l.take (23 + gLen l))) (h5 : okS (readF l).2 = true) (h6 : ¬ (putE (readF l).1 ≠ 0 ∨ l ≠ putL (readF l).1)) : getE l = 0 := by unfold getE; rw [if_neg h1, if_neg (by omega), if_neg (by omega), if_neg (fun h => h h4), if_neg (by rw [h5]; decide), if_neg h6]
theorem gLen_lt : gLen l < 65536 := gNum_lt l 21 2
end
attribute [irreducible] getE gLen

theorem get_zero {w w' : World} {l : List UInt8} {e : Nat} {v : Int} (he : getE l = e) (h0 : e ≠ 0) (hv : (e : Int) = v) (hb : Below w.heap.size w w') : ∃ A c, Ending.returned (.tuple #[.agg #[.int .i64 0, .int .u64 0, .int .u64 0, .int .u32 0, .int .u32 0, .int .i64 0, .int .i64 0, .int .i64 0, .int .i64 0, .string ⟨#[]⟩, .slice none 0 0], .int .i64 v]) = .returned (.tuple #[.agg ((getX l).cells A c), .int .i64 (getE l : Nat)]) ∧ SOut w w' A c (getX l).l := by
  rw [getX_bad (by rw [he]; exact h0), he, hv]
  exact ⟨none, 0, rfl, SRow.nil _, by simp [blk], hb⟩
set_option maxHeartbeats 4000000 in
set_option maxRecDepth 100000 in
theorem frGet_any (w : World) (A0 : Option Addr) (c0 : Nat) (l : List UInt8) (hr : Reads w 1 A0 l.length (bv l)) (hc : l.length ≤ c0) (hl : l.length ≤ 1000000) :
    Calls Try.prog 24 #[.slice A0 l.length c0] w fun e w' => ∃ A c, e = .returned (.tuple #[.agg ((getX l).cells A c), .int .i64 (getE l : Nat)]) ∧ SOut w w' A c (getX l).l := by
  obtain ⟨hb1, hg1, hs1⟩ := alloc1 w fr0c 41
  have Hr := Lib.hid (hr.below hb1)
  have HB := Lib.hid hb1
  unfold fr0c at hg1 HB Hr
  obtain ⟨y0, y1, y2, y3, y4, y5, y6, y7, y8, y9, y10⟩ := cells11 hg1
  obtain ⟨z0, z1, z2, z3, z4, z5, z6, z7, z8, z9, z10⟩ := froz11 hg1
  have H2 := Lib.hid hg1
  have HC := Lib.hid (And.intro hc hl)
  clear hr hb1 hg1 hs1
  by_cases h1 : l.length < 27
  · have HE := Lib.hid (getE_1 h1)
    clear hc hl HC
    go_enter Try.func24, Try.ntmps24
    go_wp2_with fail
    refine bodyPost_ret (results_cell_tmp_row rfl _ _ w.heap.size _ _ _ _ rfl H2.out Try.underlying41 rfl (by kernel_rfl)) rfl ?_
    exact get_zero HE.out (by decide) (by rfl) HB.out
  · have hlt := gLen_lt (l := l)
    have HG := Lib.hid (get_any A0 l c0 21 2 _ Hr.out hc (by unfold maxLen; omega))
    rw [gErr_ok (by omega) (by omega)] at HG
    have hgl : gNum l 21 2 = gLen l := by unfold gLen; rfl
    rw [hgl] at HG
    have HH1 := Lib.hid h1
    obtain ⟨n, hn⟩ : ∃ n, gLen l = n := ⟨_, rfl⟩
    have HN := Lib.hid hn
    rw [hn] at HG hlt
    have hwi := wrapI_nat (n := n) (by omega)
    clear hn hgl hc hl
    by_cases h2 : l.length < 27 + n
    · have HE := Lib.hid (getE_2 HH1.out (by rw [HN.out]; exact h2))
      go_enter Try.func24, Try.ntmps24
      go_wp2_with fail
      refine HG.out.mono ?_
      rintro e w1 ⟨rfl, hw⟩
      rw [hw] at H2 HB Hr y0 y1 y2 y3 y4 y5 y6 y7 y8 y9 y10 z0 z1 z2 z3 z4 z5 z6 z7 z8 z9 z10
      clear hw HG
      go_wp2_with fail
      obtain ⟨u1, u2⟩ := set11 H2.out (mk11 _ _ _ _ _ _ _ _ _ _ _) (.int .i64 0) (.int .u64 0) (.int .u64 0) (.int .u32 0) (.int .u32 0) (.int .i64 0) (.int .i64 0) (.int .i64 0) (.int .i64 0) (.string ⟨#[]⟩) (.slice none 0 0)
      refine bodyPost_ret (results_cell_tmp_row rfl _ _ w.heap.size _ _ _ _ rfl u1 Try.underlying41 rfl (by kernel_rfl)) rfl ?_
      exact get_zero HE.out (by decide) (by rfl) (HB.out.trans (u2.below (fun i hi e => by omega) HB.out.size))
    · by_cases h3 : 27 + n < l.length
      · have HE := Lib.hid (getE_3 HH1.out (by rw [HN.out]; exact h3))
        go_enter Try.func24, Try.ntmps24
        go_wp2_with fail
        refine HG.out.mono ?_
        rintro e w1 ⟨rfl, hw⟩
        rw [hw] at H2 HB Hr y0 y1 y2 y3 y4 y5 y6 y7 y8 y9 y10 z0 z1 z2 z3 z4 z5 z6 z7 z8 z9 z10
        clear hw HG
        go_wp2_with fail
        obtain ⟨u1, u2⟩ := set11 H2.out (mk11 _ _ _ _ _ _ _ _ _ _ _) (.int .i64 0) (.int .u64 0) (.int .u64 0) (.int .u32 0) (.int .u32 0) (.int .i64 0) (.int .i64 0) (.int .i64 0) (.int .i64 0) (.string ⟨#[]⟩) (.slice none 0 0)
        refine bodyPost_ret (results_cell_tmp_row rfl _ _ w.heap.size _ _ _ _ rfl u1 Try.underlying41 rfl (by kernel_rfl)) rfl ?_
        exact get_zero HE.out (by decide) (by rfl) (HB.out.trans (u2.below (fun i hi e => by omega) HB.out.size))
      · have HLn := Lib.hid (show l.length = 27 + n by omega)
        have hS : gNum l (23 + (n : Int)) 4 < 4294967296 := gNum_lt l (23 + (n : Int)) 4
        have hcut : ∀ W : World, (Instr.slice 25 (.slice A0 l.length c0) none (some (.int .i64 (23 + (n : Int)))) none).run Try.prog W = .ok (.slice A0 (23 + n) c0) W := fun W => by
          have h := (cutB_to A0 c0 l (23 + n) (by omega) HC.out.1).1 W
          push_cast at h
          exact h
        have HCut := Lib.hid (fun w => (cutB_to A0 c0 l (23 + n) (by omega) HC.out.1).2 w)
        have HTk := Lib.hid (show (l.take (23 + n)).length = 23 + n by rw [List.length_take]; omega)
        have HE4 := Lib.hid (show gErr l.length (23 + (n : Int)) 4 = 0 from gErr_ok (by omega) (by omega))
        obtain ⟨S, hSe⟩ : ∃ S, gNum l (23 + (n : Int)) 4 = S := ⟨_, rfl⟩
        rw [hSe] at hS
        have HSe := Lib.hid (show gNum l (23 + gLen l : Nat) 4 = S by rw [HN.out, ← hSe]; push_cast; rfl)
        have HSe0 := Lib.hid hSe
        have hw32 := wrap32_nat (n := S) hS
        obtain ⟨C, hCe⟩ : ∃ C, crcAdd 0 (l.take (23 + n)) = C := ⟨_, rfl⟩
        have HCe := Lib.hid (show crcAdd 0 (l.take (23 + gLen l)) = C by rw [HN.out, hCe])
        have HCe0 := Lib.hid hCe
        clear hSe hCe hS
        by_cases h4 : S = C
        · have hne : ((S : Int) != (C : Int)) = false := by rw [h4]; simp
          have HH4 := Lib.hid (show gNum l (23 + gLen l : Nat) 4 = crcAdd 0 (l.take (23 + gLen l)) by rw [HSe.out, HCe.out, h4])
          have HL3 := Lib.hid (show l.length = 27 + gLen l by rw [HN.out]; exact HLn.out)
          clear h4
          obtain ⟨x, hx⟩ : ∃ x, (readF l).1 = x := ⟨_, rfl⟩
          obtain ⟨ok, hok⟩ : ∃ ok, okS (readF l).2 = ok := ⟨_, rfl⟩
          have HX := Lib.hid hx
          have HOk := Lib.hid hok
          clear hx hok
          cases ok with
          | false =>
            have HE := Lib.hid (getE_5 HH1.out HL3.out HH4.out HOk.out)
            go_enter Try.func24, Try.ntmps24
            go_wp2_with fail
            refine HG.out.mono ?_
            rintro e w1 ⟨rfl, hw⟩
            rw [hw] at H2 HB Hr y0 y1 y2 y3 y4 y5 y6 y7 y8 y9 y10 z0 z1 z2 z3 z4 z5 z6 z7 z8 z9 z10
            clear hw HG
            go_wp2_with fail
            have HG := Lib.hid (get_any A0 l c0 (23 + (n : Int)) 4 _ Hr.out HC.out.1 (by have := HC.out.2; unfold maxLen; omega))
            rw [HE4.out, HSe0.out] at HG
            refine HG.out.mono ?_
            rintro e w' ⟨rfl, rfl⟩
            have HG := Lib.hid (crcSum_any A0 (l.take (23 + n)) c0 w1 (HCut.out _ Hr.out) (by rw [HTk.out]; have := HC.out.2; unfold maxLen; omega))
            rw [HTk.out, HCe0.out] at HG
            go_wp2_with fail
            refine HG.out.mono ?_
            rintro e w2 ⟨rfl, hb⟩
            have H2 := Lib.hid ((hb.block _ (Array.getElem?_eq_some_iff.1 H2.out).1).trans H2.out)
            have Hr := Lib.hid (Hr.out.below hb)
            have HB := Lib.hid (HB.out.trans (hb.mono HB.out.size))
            clear y0 y1 y2 y3 y4 y5 y6 y7 y8 y9 y10 z0 z1 z2 z3 z4 z5 z6 z7 z8 z9 z10
            obtain ⟨y0, y1, y2, y3, y4, y5, y6, y7, y8, y9, y10⟩ := cells11 H2.out
            obtain ⟨z0, z1, z2, z3, z4, z5, z6, z7, z8, z9, z10⟩ := froz11 H2.out
            clear hb HG
            have HRd := Lib.hid (frRead_any w2 A0 c0 l Hr.out HC.out.2)
            rw [HX.out, HOk.out] at HRd
            unfold Fr.cells at HRd
            go_wp2_with fail
            refine HRd.out.mono ?_
            rintro e w3 ⟨A, c, rfl, hO⟩
            have HRow := Lib.hid (show SRow w3 A c x.l ∧ ∀ k, blk A = some k → w.heap.size < k from ⟨hO.1, fun k hk => Nat.lt_of_lt_of_le (Array.getElem?_eq_some_iff.1 H2.out).1 (hO.2.1 k hk)⟩)
            have hb := hO.2.2
            clear hO HRd
            have H2 := Lib.hid ((hb.block _ (Array.getElem?_eq_some_iff.1 H2.out).1).trans H2.out)
            have Hr := Lib.hid (Hr.out.below hb)
            have HB := Lib.hid (HB.out.trans (hb.mono HB.out.size))
            clear y0 y1 y2 y3 y4 y5 y6 y7 y8 y9 y10 z0 z1 z2 z3 z4 z5 z6 z7 z8 z9 z10
            obtain ⟨y0, y1, y2, y3, y4, y5, y6, y7, y8, y9, y10⟩ := cells11 H2.out
            obtain ⟨z0, z1, z2, z3, z4, z5, z6, z7, z8, z9, z10⟩ := froz11 H2.out
            clear hb
            have hb := (alloc1 w3 #[.int .i64 x.k, .int .u64 (x.s : Int), .int .u64 (x.e : Int), .int .u32 (x.q : Int), .int .u32 (x.v : Int), .int .i64 x.n, .int .i64 x.f, .int .i64 x.i, .int .i64 x.c, .string x.d, .slice A x.l.length c] 41).1
            have H2 := Lib.hid ((hb.block _ (Array.getElem?_eq_some_iff.1 H2.out).1).trans H2.out)
            have Hr := Lib.hid (Hr.out.below hb)
            have HB := Lib.hid (HB.out.trans (hb.mono HB.out.size))
            clear y0 y1 y2 y3 y4 y5 y6 y7 y8 y9 y10 z0 z1 z2 z3 z4 z5 z6 z7 z8 z9 z10
            obtain ⟨y0, y1, y2, y3, y4, y5, y6, y7, y8, y9, y10⟩ := cells11 H2.out
            obtain ⟨z0, z1, z2, z3, z4, z5, z6, z7, z8, z9, z10⟩ := froz11 H2.out
            clear hb
            go_wp2_with fail
            obtain ⟨u1, u2⟩ := set11 H2.out (mk11 _ _ _ _ _ _ _ _ _ _ _) (.int .i64 0) (.int .u64 0) (.int .u64 0) (.int .u32 0) (.int .u32 0) (.int .i64 0) (.int .i64 0) (.int .i64 0) (.int .i64 0) (.string ⟨#[]⟩) (.slice none 0 0)
            refine bodyPost_ret (results_cell_tmp_row rfl _ _ w.heap.size _ _ _ _ rfl u1 Try.underlying41 rfl (by kernel_rfl)) rfl ?_
            exact get_zero HE.out (by decide) (by rfl) (HB.out.trans (u2.below (fun i hi e => by omega) HB.out.size))
          | true =>
            have HXok := Lib.hid (readF_ok l)
            rw [HX.out] at HXok
            obtain ⟨pe, hpe⟩ : ∃ pe, putE x = pe := ⟨_, rfl⟩
            have HPe := Lib.hid hpe
            clear hpe
            by_cases h6 : pe = 0
            · have hn6 : ((pe : Int) != 0) = false := by rw [h6]; rfl
              have H6 := Lib.hid h6
              clear h6
              by_cases h7 : l = putL x
              · have HEq := Lib.hid (decide_eq_true h7)
                have HE := Lib.hid (getE_7 HH1.out HL3.out HH4.out HOk.out (by rw [HX.out, HPe.out]; exact fun h => h.elim (fun h => h H6.out) (fun h => h h7)))
                clear h7
                go_enter Try.func24, Try.ntmps24
                go_wp2_with fail
                refine HG.out.mono ?_
                rintro e w1 ⟨rfl, hw⟩
                rw [hw] at H2 HB Hr y0 y1 y2 y3 y4 y5 y6 y7 y8 y9 y10 z0 z1 z2 z3 z4 z5 z6 z7 z8 z9 z10
                clear hw HG
                go_wp2_with fail
                have HG := Lib.hid (get_any A0 l c0 (23 + (n : Int)) 4 _ Hr.out HC.out.1 (by have := HC.out.2; unfold maxLen; omega))
                rw [HE4.out, HSe0.out] at HG
                refine HG.out.mono ?_
                rintro e w' ⟨rfl, rfl⟩
                have HG := Lib.hid (crcSum_any A0 (l.take (23 + n)) c0 w1 (HCut.out _ Hr.out) (by rw [HTk.out]; have := HC.out.2; unfold maxLen; omega))
                rw [HTk.out, HCe0.out] at HG
                go_wp2_with fail
                refine HG.out.mono ?_
                rintro e w2 ⟨rfl, hb⟩
                have H2 := Lib.hid ((hb.block _ (Array.getElem?_eq_some_iff.1 H2.out).1).trans H2.out)
                have Hr := Lib.hid (Hr.out.below hb)
                have HB := Lib.hid (HB.out.trans (hb.mono HB.out.size))
                clear y0 y1 y2 y3 y4 y5 y6 y7 y8 y9 y10 z0 z1 z2 z3 z4 z5 z6 z7 z8 z9 z10
                obtain ⟨y0, y1, y2, y3, y4, y5, y6, y7, y8, y9, y10⟩ := cells11 H2.out
                obtain ⟨z0, z1, z2, z3, z4, z5, z6, z7, z8, z9, z10⟩ := froz11 H2.out
                clear hb HG
                have HRd := Lib.hid (frRead_any w2 A0 c0 l Hr.out HC.out.2)
                rw [HX.out, HOk.out] at HRd
                unfold Fr.cells at HRd
                go_wp2_with fail
                refine HRd.out.mono ?_
                rintro e w3 ⟨A, c, rfl, hO⟩
                have HRow := Lib.hid (show SRow w3 A c x.l ∧ ∀ k, blk A = some k → w.heap.size < k from ⟨hO.1, fun k hk => Nat.lt_of_lt_of_le (Array.getElem?_eq_some_iff.1 H2.out).1 (hO.2.1 k hk)⟩)
                have hb := hO.2.2
                clear hO HRd
                have H2 := Lib.hid ((hb.block _ (Array.getElem?_eq_some_iff.1 H2.out).1).trans H2.out)
                have Hr := Lib.hid (Hr.out.below hb)
                have HB := Lib.hid (HB.out.trans (hb.mono HB.out.size))
                clear y0 y1 y2 y3 y4 y5 y6 y7 y8 y9 y10 z0 z1 z2 z3 z4 z5 z6 z7 z8 z9 z10
                obtain ⟨y0, y1, y2, y3, y4, y5, y6, y7, y8, y9, y10⟩ := cells11 H2.out
                obtain ⟨z0, z1, z2, z3, z4, z5, z6, z7, z8, z9, z10⟩ := froz11 H2.out
                clear hb
                have hb := (alloc1 w3 #[.int .i64 x.k, .int .u64 (x.s : Int), .int .u64 (x.e : Int), .int .u32 (x.q : Int), .int .u32 (x.v : Int), .int .i64 x.n, .int .i64 x.f, .int .i64 x.i, .int .i64 x.c, .string x.d, .slice A x.l.length c] 41).1
                have H2 := Lib.hid ((hb.block _ (Array.getElem?_eq_some_iff.1 H2.out).1).trans H2.out)
                have Hr := Lib.hid (Hr.out.below hb)
                have HB := Lib.hid (HB.out.trans (hb.mono HB.out.size))
                clear y0 y1 y2 y3 y4 y5 y6 y7 y8 y9 y10 z0 z1 z2 z3 z4 z5 z6 z7 z8 z9 z10
                obtain ⟨y0, y1, y2, y3, y4, y5, y6, y7, y8, y9, y10⟩ := cells11 H2.out
                obtain ⟨z0, z1, z2, z3, z4, z5, z6, z7, z8, z9, z10⟩ := froz11 H2.out
                have hg := (alloc1 w3 #[.int .i64 x.k, .int .u64 (x.s : Int), .int .u64 (x.e : Int), .int .u32 (x.q : Int), .int .u32 (x.v : Int), .int .i64 x.n, .int .i64 x.f, .int .i64 x.i, .int .i64 x.c, .string x.d, .slice A x.l.length c] 41).2.1
                obtain ⟨d0, d1, d2, d3, d4, d5, d6, d7, d8, d9, d10⟩ := cells11 hg
                have HG4 := Lib.hid hg
                have HRow := Lib.hid (And.intro (HRow.out.1.below hb) HRow.out.2)
                have HP := Lib.hid (framePut_any _ x A c HRow.out.1.reads HXok.out.2.body (by have := HXok.out.2.2.1; omega) HXok.out.1)
                unfold Fr.cells at HP
                rw [HPe.out] at HP
                clear hg hb
                go_wp2_with fail
                refine HP.out.mono ?_
                rintro e w5 ⟨A1, c1, rfl, hO⟩
                have hb := hO.2.2
                have HBy := Lib.hid hO.1
                have HG4 := Lib.hid ((hb.block _ (Array.getElem?_eq_some_iff.1 HG4.out).1).trans HG4.out)
                have HRow := Lib.hid (And.intro (HRow.out.1.below hb) HRow.out.2)
                clear HP d0 d1 d2 d3 d4 d5 d6 d7 d8 d9 d10
                have H2 := Lib.hid ((hb.block _ (Array.getElem?_eq_some_iff.1 H2.out).1).trans H2.out)
                have Hr := Lib.hid (Hr.out.below hb)
                have HB := Lib.hid (HB.out.trans (hb.mono HB.out.size))
                clear y0 y1 y2 y3 y4 y5 y6 y7 y8 y9 y10 z0 z1 z2 z3 z4 z5 z6 z7 z8 z9 z10
                obtain ⟨y0, y1, y2, y3, y4, y5, y6, y7, y8, y9, y10⟩ := cells11 H2.out
                obtain ⟨z0, z1, z2, z3, z4, z5, z6, z7, z8, z9, z10⟩ := froz11 H2.out
                clear hO hb
                obtain ⟨d0, d1, d2, d3, d4, d5, d6, d7, d8, d9, d10⟩ := cells11 HG4.out
                generalize w3.heap.size = bf at HG4 d0 d1 d2 d3 d4 d5 d6 d7 d8 d9 d10 ⊢
                go_wp2_with fail
                refine (equalBy_any A0 A1 l (putL x) c0 c1 w5 Hr.out HBy.out.reads (by have := HC.out.2; omega)).mono ?_
                rw [HEq.out]
                rintro e w6 ⟨rfl, hb⟩
                have HG4 := Lib.hid ((hb.block _ (Array.getElem?_eq_some_iff.1 HG4.out).1).trans HG4.out)
                have HRow := Lib.hid (And.intro (HRow.out.1.below hb) HRow.out.2)
                clear d0 d1 d2 d3 d4 d5 d6 d7 d8 d9 d10
                have H2 := Lib.hid ((hb.block _ (Array.getElem?_eq_some_iff.1 H2.out).1).trans H2.out)
                have Hr := Lib.hid (Hr.out.below hb)
                have HB := Lib.hid (HB.out.trans (hb.mono HB.out.size))
                clear y0 y1 y2 y3 y4 y5 y6 y7 y8 y9 y10 z0 z1 z2 z3 z4 z5 z6 z7 z8 z9 z10
                obtain ⟨y0, y1, y2, y3, y4, y5, y6, y7, y8, y9, y10⟩ := cells11 H2.out
                obtain ⟨z0, z1, z2, z3, z4, z5, z6, z7, z8, z9, z10⟩ := froz11 H2.out
                clear hb
                obtain ⟨d0, d1, d2, d3, d4, d5, d6, d7, d8, d9, d10⟩ := cells11 HG4.out
                go_wp2_with fail
                obtain ⟨u1, u2⟩ := set11 H2.out (mk11 _ _ _ _ _ _ _ _ _ _ _) (.int .i64 x.k) (.int .u64 (x.s : Int)) (.int .u64 (x.e : Int)) (.int .u32 (x.q : Int)) (.int .u32 (x.v : Int)) (.int .i64 x.n) (.int .i64 x.f) (.int .i64 x.i) (.int .i64 x.c) (.string x.d) (.slice A x.l.length c)
                refine bodyPost_ret (results_cell_tmp_row rfl _ _ w.heap.size _ _ _ _ rfl u1 Try.underlying41 rfl (by kernel_rfl)) rfl ?_
                refine ⟨A, c, by rw [getX_ok HE.out, HX.out, HE.out]; rfl, ?_⟩
                rw [getX_ok HE.out, HX.out]
                exact ⟨HRow.out.1.chg u2 (fun k hk e => by have := HRow.out.2 k hk; omega), fun k hk => Nat.le_of_lt (HRow.out.2 k hk), HB.out.trans (u2.below (fun i hi e => by omega) HB.out.size)⟩
              · have HEq := Lib.hid (decide_eq_false h7)
                have HE := Lib.hid (getE_6 HH1.out HL3.out HH4.out HOk.out (.inr (by rw [HX.out]; exact h7)))
                clear h7
                go_enter Try.func24, Try.ntmps24
                go_wp2_with fail
                refine HG.out.mono ?_
                rintro e w1 ⟨rfl, hw⟩
                rw [hw] at H2 HB Hr y0 y1 y2 y3 y4 y5 y6 y7 y8 y9 y10 z0 z1 z2 z3 z4 z5 z6 z7 z8 z9 z10
                clear hw HG
                go_wp2_with fail
                have HG := Lib.hid (get_any A0 l c0 (23 + (n : Int)) 4 _ Hr.out HC.out.1 (by have := HC.out.2; unfold maxLen; omega))
                rw [HE4.out, HSe0.out] at HG
                refine HG.out.mono ?_
                rintro e w' ⟨rfl, rfl⟩
                have HG := Lib.hid (crcSum_any A0 (l.take (23 + n)) c0 w1 (HCut.out _ Hr.out) (by rw [HTk.out]; have := HC.out.2; unfold maxLen; omega))
                rw [HTk.out, HCe0.out] at HG
                go_wp2_with fail
                refine HG.out.mono ?_
                rintro e w2 ⟨rfl, hb⟩
                have H2 := Lib.hid ((hb.block _ (Array.getElem?_eq_some_iff.1 H2.out).1).trans H2.out)
                have Hr := Lib.hid (Hr.out.below hb)
                have HB := Lib.hid (HB.out.trans (hb.mono HB.out.size))
                clear y0 y1 y2 y3 y4 y5 y6 y7 y8 y9 y10 z0 z1 z2 z3 z4 z5 z6 z7 z8 z9 z10
                obtain ⟨y0, y1, y2, y3, y4, y5, y6, y7, y8, y9, y10⟩ := cells11 H2.out
                obtain ⟨z0, z1, z2, z3, z4, z5, z6, z7, z8, z9, z10⟩ := froz11 H2.out
                clear hb HG
                have HRd := Lib.hid (frRead_any w2 A0 c0 l Hr.out HC.out.2)
                rw [HX.out, HOk.out] at HRd
                unfold Fr.cells at HRd
                go_wp2_with fail
                refine HRd.out.mono ?_
                rintro e w3 ⟨A, c, rfl, hO⟩
                have HRow := Lib.hid (show SRow w3 A c x.l ∧ ∀ k, blk A = some k → w.heap.size < k from ⟨hO.1, fun k hk => Nat.lt_of_lt_of_le (Array.getElem?_eq_some_iff.1 H2.out).1 (hO.2.1 k hk)⟩)
                have hb := hO.2.2
                clear hO HRd
                have H2 := Lib.hid ((hb.block _ (Array.getElem?_eq_some_iff.1 H2.out).1).trans H2.out)
                have Hr := Lib.hid (Hr.out.below hb)
                have HB := Lib.hid (HB.out.trans (hb.mono HB.out.size))
                clear y0 y1 y2 y3 y4 y5 y6 y7 y8 y9 y10 z0 z1 z2 z3 z4 z5 z6 z7 z8 z9 z10
                obtain ⟨y0, y1, y2, y3, y4, y5, y6, y7, y8, y9, y10⟩ := cells11 H2.out
                obtain ⟨z0, z1, z2, z3, z4, z5, z6, z7, z8, z9, z10⟩ := froz11 H2.out
                clear hb
                have hb := (alloc1 w3 #[.int .i64 x.k, .int .u64 (x.s : Int), .int .u64 (x.e : Int), .int .u32 (x.q : Int), .int .u32 (x.v : Int), .int .i64 x.n, .int .i64 x.f, .int .i64 x.i, .int .i64 x.c, .string x.d, .slice A x.l.length c] 41).1
                have H2 := Lib.hid ((hb.block _ (Array.getElem?_eq_some_iff.1 H2.out).1).trans H2.out)
                have Hr := Lib.hid (Hr.out.below hb)
                have HB := Lib.hid (HB.out.trans (hb.mono HB.out.size))
                clear y0 y1 y2 y3 y4 y5 y6 y7 y8 y9 y10 z0 z1 z2 z3 z4 z5 z6 z7 z8 z9 z10
                obtain ⟨y0, y1, y2, y3, y4, y5, y6, y7, y8, y9, y10⟩ := cells11 H2.out
                obtain ⟨z0, z1, z2, z3, z4, z5, z6, z7, z8, z9, z10⟩ := froz11 H2.out
                have hg := (alloc1 w3 #[.int .i64 x.k, .int .u64 (x.s : Int), .int .u64 (x.e : Int), .int .u32 (x.q : Int), .int .u32 (x.v : Int), .int .i64 x.n, .int .i64 x.f, .int .i64 x.i, .int .i64 x.c, .string x.d, .slice A x.l.length c] 41).2.1
                obtain ⟨d0, d1, d2, d3, d4, d5, d6, d7, d8, d9, d10⟩ := cells11 hg
                have HG4 := Lib.hid hg
                have HRow := Lib.hid (And.intro (HRow.out.1.below hb) HRow.out.2)
                have HP := Lib.hid (framePut_any _ x A c HRow.out.1.reads HXok.out.2.body (by have := HXok.out.2.2.1; omega) HXok.out.1)
                unfold Fr.cells at HP
                rw [HPe.out] at HP
                clear hg hb
                go_wp2_with fail
                refine HP.out.mono ?_
                rintro e w5 ⟨A1, c1, rfl, hO⟩
                have hb := hO.2.2
                have HBy := Lib.hid hO.1
                have HG4 := Lib.hid ((hb.block _ (Array.getElem?_eq_some_iff.1 HG4.out).1).trans HG4.out)
                have HRow := Lib.hid (And.intro (HRow.out.1.below hb) HRow.out.2)
                clear HP d0 d1 d2 d3 d4 d5 d6 d7 d8 d9 d10
                have H2 := Lib.hid ((hb.block _ (Array.getElem?_eq_some_iff.1 H2.out).1).trans H2.out)
                have Hr := Lib.hid (Hr.out.below hb)
                have HB := Lib.hid (HB.out.trans (hb.mono HB.out.size))
                clear y0 y1 y2 y3 y4 y5 y6 y7 y8 y9 y10 z0 z1 z2 z3 z4 z5 z6 z7 z8 z9 z10
                obtain ⟨y0, y1, y2, y3, y4, y5, y6, y7, y8, y9, y10⟩ := cells11 H2.out
                obtain ⟨z0, z1, z2, z3, z4, z5, z6, z7, z8, z9, z10⟩ := froz11 H2.out
                clear hO hb
                obtain ⟨d0, d1, d2, d3, d4, d5, d6, d7, d8, d9, d10⟩ := cells11 HG4.out
                generalize w3.heap.size = bf at HG4 d0 d1 d2 d3 d4 d5 d6 d7 d8 d9 d10 ⊢
                go_wp2_with fail
                refine (equalBy_any A0 A1 l (putL x) c0 c1 w5 Hr.out HBy.out.reads (by have := HC.out.2; omega)).mono ?_
                rw [HEq.out]
                rintro e w6 ⟨rfl, hb⟩
                have HG4 := Lib.hid ((hb.block _ (Array.getElem?_eq_some_iff.1 HG4.out).1).trans HG4.out)
                have HRow := Lib.hid (And.intro (HRow.out.1.below hb) HRow.out.2)
                clear d0 d1 d2 d3 d4 d5 d6 d7 d8 d9 d10
                have H2 := Lib.hid ((hb.block _ (Array.getElem?_eq_some_iff.1 H2.out).1).trans H2.out)
                have Hr := Lib.hid (Hr.out.below hb)
                have HB := Lib.hid (HB.out.trans (hb.mono HB.out.size))
                clear y0 y1 y2 y3 y4 y5 y6 y7 y8 y9 y10 z0 z1 z2 z3 z4 z5 z6 z7 z8 z9 z10
                obtain ⟨y0, y1, y2, y3, y4, y5, y6, y7, y8, y9, y10⟩ := cells11 H2.out
                obtain ⟨z0, z1, z2, z3, z4, z5, z6, z7, z8, z9, z10⟩ := froz11 H2.out
                clear hb
                obtain ⟨d0, d1, d2, d3, d4, d5, d6, d7, d8, d9, d10⟩ := cells11 HG4.out
                go_wp2_with fail
                obtain ⟨u1, u2⟩ := set11 H2.out (mk11 _ _ _ _ _ _ _ _ _ _ _) (.int .i64 0) (.int .u64 0) (.int .u64 0) (.int .u32 0) (.int .u32 0) (.int .i64 0) (.int .i64 0) (.int .i64 0) (.int .i64 0) (.string ⟨#[]⟩) (.slice none 0 0)
                refine bodyPost_ret (results_cell_tmp_row rfl _ _ w.heap.size _ _ _ _ rfl u1 Try.underlying41 rfl (by kernel_rfl)) rfl ?_
                exact get_zero HE.out (by decide) (by rfl) (HB.out.trans (u2.below (fun i hi e => by omega) HB.out.size))
            · have hn6 : ((pe : Int) != 0) = true := by rw [bne_iff_ne]; omega
              have HE := Lib.hid (getE_6 HH1.out HL3.out HH4.out HOk.out (.inl (by rw [HX.out, HPe.out]; exact h6)))
              clear h6
              go_enter Try.func24, Try.ntmps24
              go_wp2_with fail
              refine HG.out.mono ?_
              rintro e w1 ⟨rfl, hw⟩
              rw [hw] at H2 HB Hr y0 y1 y2 y3 y4 y5 y6 y7 y8 y9 y10 z0 z1 z2 z3 z4 z5 z6 z7 z8 z9 z10
              clear hw HG
              go_wp2_with fail
              have HG := Lib.hid (get_any A0 l c0 (23 + (n : Int)) 4 _ Hr.out HC.out.1 (by have := HC.out.2; unfold maxLen; omega))
              rw [HE4.out, HSe0.out] at HG
              refine HG.out.mono ?_
              rintro e w' ⟨rfl, rfl⟩
              have HG := Lib.hid (crcSum_any A0 (l.take (23 + n)) c0 w1 (HCut.out _ Hr.out) (by rw [HTk.out]; have := HC.out.2; unfold maxLen; omega))
              rw [HTk.out, HCe0.out] at HG
              go_wp2_with fail
              refine HG.out.mono ?_
              rintro e w2 ⟨rfl, hb⟩
              have H2 := Lib.hid ((hb.block _ (Array.getElem?_eq_some_iff.1 H2.out).1).trans H2.out)
              have Hr := Lib.hid (Hr.out.below hb)
              have HB := Lib.hid (HB.out.trans (hb.mono HB.out.size))
              clear y0 y1 y2 y3 y4 y5 y6 y7 y8 y9 y10 z0 z1 z2 z3 z4 z5 z6 z7 z8 z9 z10
              obtain ⟨y0, y1, y2, y3, y4, y5, y6, y7, y8, y9, y10⟩ := cells11 H2.out
              obtain ⟨z0, z1, z2, z3, z4, z5, z6, z7, z8, z9, z10⟩ := froz11 H2.out
              clear hb HG
              have HRd := Lib.hid (frRead_any w2 A0 c0 l Hr.out HC.out.2)
              rw [HX.out, HOk.out] at HRd
              unfold Fr.cells at HRd
              go_wp2_with fail
              refine HRd.out.mono ?_
              rintro e w3 ⟨A, c, rfl, hO⟩
              have HRow := Lib.hid (show SRow w3 A c x.l ∧ ∀ k, blk A = some k → w.heap.size < k from ⟨hO.1, fun k hk => Nat.lt_of_lt_of_le (Array.getElem?_eq_some_iff.1 H2.out).1 (hO.2.1 k hk)⟩)
              have hb := hO.2.2
              clear hO HRd
              have H2 := Lib.hid ((hb.block _ (Array.getElem?_eq_some_iff.1 H2.out).1).trans H2.out)
              have Hr := Lib.hid (Hr.out.below hb)
              have HB := Lib.hid (HB.out.trans (hb.mono HB.out.size))
              clear y0 y1 y2 y3 y4 y5 y6 y7 y8 y9 y10 z0 z1 z2 z3 z4 z5 z6 z7 z8 z9 z10
              obtain ⟨y0, y1, y2, y3, y4, y5, y6, y7, y8, y9, y10⟩ := cells11 H2.out
              obtain ⟨z0, z1, z2, z3, z4, z5, z6, z7, z8, z9, z10⟩ := froz11 H2.out
              clear hb
              have hb := (alloc1 w3 #[.int .i64 x.k, .int .u64 (x.s : Int), .int .u64 (x.e : Int), .int .u32 (x.q : Int), .int .u32 (x.v : Int), .int .i64 x.n, .int .i64 x.f, .int .i64 x.i, .int .i64 x.c, .string x.d, .slice A x.l.length c] 41).1
              have H2 := Lib.hid ((hb.block _ (Array.getElem?_eq_some_iff.1 H2.out).1).trans H2.out)
              have Hr := Lib.hid (Hr.out.below hb)
              have HB := Lib.hid (HB.out.trans (hb.mono HB.out.size))
              clear y0 y1 y2 y3 y4 y5 y6 y7 y8 y9 y10 z0 z1 z2 z3 z4 z5 z6 z7 z8 z9 z10
              obtain ⟨y0, y1, y2, y3, y4, y5, y6, y7, y8, y9, y10⟩ := cells11 H2.out
              obtain ⟨z0, z1, z2, z3, z4, z5, z6, z7, z8, z9, z10⟩ := froz11 H2.out
              have hg := (alloc1 w3 #[.int .i64 x.k, .int .u64 (x.s : Int), .int .u64 (x.e : Int), .int .u32 (x.q : Int), .int .u32 (x.v : Int), .int .i64 x.n, .int .i64 x.f, .int .i64 x.i, .int .i64 x.c, .string x.d, .slice A x.l.length c] 41).2.1
              obtain ⟨d0, d1, d2, d3, d4, d5, d6, d7, d8, d9, d10⟩ := cells11 hg
              have HG4 := Lib.hid hg
              have HRow := Lib.hid (And.intro (HRow.out.1.below hb) HRow.out.2)
              have HP := Lib.hid (framePut_any _ x A c HRow.out.1.reads HXok.out.2.body (by have := HXok.out.2.2.1; omega) HXok.out.1)
              unfold Fr.cells at HP
              rw [HPe.out] at HP
              clear hg hb
              go_wp2_with fail
              refine HP.out.mono ?_
              rintro e w5 ⟨A1, c1, rfl, hO⟩
              have hb := hO.2.2
              have HBy := Lib.hid hO.1
              have HG4 := Lib.hid ((hb.block _ (Array.getElem?_eq_some_iff.1 HG4.out).1).trans HG4.out)
              have HRow := Lib.hid (And.intro (HRow.out.1.below hb) HRow.out.2)
              clear HP d0 d1 d2 d3 d4 d5 d6 d7 d8 d9 d10
              have H2 := Lib.hid ((hb.block _ (Array.getElem?_eq_some_iff.1 H2.out).1).trans H2.out)
              have Hr := Lib.hid (Hr.out.below hb)
              have HB := Lib.hid (HB.out.trans (hb.mono HB.out.size))
              clear y0 y1 y2 y3 y4 y5 y6 y7 y8 y9 y10 z0 z1 z2 z3 z4 z5 z6 z7 z8 z9 z10
              obtain ⟨y0, y1, y2, y3, y4, y5, y6, y7, y8, y9, y10⟩ := cells11 H2.out
              obtain ⟨z0, z1, z2, z3, z4, z5, z6, z7, z8, z9, z10⟩ := froz11 H2.out
              clear hO hb
              obtain ⟨d0, d1, d2, d3, d4, d5, d6, d7, d8, d9, d10⟩ := cells11 HG4.out
              generalize w3.heap.size = bf at HG4 d0 d1 d2 d3 d4 d5 d6 d7 d8 d9 d10 ⊢
              go_wp2_with fail
              obtain ⟨u1, u2⟩ := set11 H2.out (mk11 _ _ _ _ _ _ _ _ _ _ _) (.int .i64 0) (.int .u64 0) (.int .u64 0) (.int .u32 0) (.int .u32 0) (.int .i64 0) (.int .i64 0) (.int .i64 0) (.int .i64 0) (.string ⟨#[]⟩) (.slice none 0 0)
              refine bodyPost_ret (results_cell_tmp_row rfl _ _ w.heap.size _ _ _ _ rfl u1 Try.underlying41 rfl (by kernel_rfl)) rfl ?_
              exact get_zero HE.out (by decide) (by rfl) (HB.out.trans (u2.below (fun i hi e => by omega) HB.out.size))
        · have hne : ((S : Int) != (C : Int)) = true := by rw [bne_iff_ne]; omega
          have HE := Lib.hid (getE_4 HH1.out (by rw [HN.out]; exact HLn.out) (by rw [HSe.out, HCe.out]; exact h4))
          clear h4
          go_enter Try.func24, Try.ntmps24
          go_wp2_with fail
          refine HG.out.mono ?_
          rintro e w1 ⟨rfl, hw⟩
          rw [hw] at H2 HB Hr y0 y1 y2 y3 y4 y5 y6 y7 y8 y9 y10 z0 z1 z2 z3 z4 z5 z6 z7 z8 z9 z10
          clear hw HG
          go_wp2_with fail
          have HG := Lib.hid (get_any A0 l c0 (23 + (n : Int)) 4 _ Hr.out HC.out.1 (by have := HC.out.2; unfold maxLen; omega))
          rw [HE4.out, HSe0.out] at HG
          refine HG.out.mono ?_
          rintro e w' ⟨rfl, rfl⟩
          have HG := Lib.hid (crcSum_any A0 (l.take (23 + n)) c0 w1 (HCut.out _ Hr.out) (by rw [HTk.out]; have := HC.out.2; unfold maxLen; omega))
          rw [HTk.out, HCe0.out] at HG
          go_wp2_with fail
          refine HG.out.mono ?_
          rintro e w2 ⟨rfl, hb⟩
          have H2 := Lib.hid ((hb.block _ (Array.getElem?_eq_some_iff.1 H2.out).1).trans H2.out)
          have Hr := Lib.hid (Hr.out.below hb)
          have HB := Lib.hid (HB.out.trans (hb.mono HB.out.size))
          clear y0 y1 y2 y3 y4 y5 y6 y7 y8 y9 y10 z0 z1 z2 z3 z4 z5 z6 z7 z8 z9 z10
          obtain ⟨y0, y1, y2, y3, y4, y5, y6, y7, y8, y9, y10⟩ := cells11 H2.out
          obtain ⟨z0, z1, z2, z3, z4, z5, z6, z7, z8, z9, z10⟩ := froz11 H2.out
          clear hb HG
          go_wp2_with fail
          obtain ⟨u1, u2⟩ := set11 H2.out (mk11 _ _ _ _ _ _ _ _ _ _ _) (.int .i64 0) (.int .u64 0) (.int .u64 0) (.int .u32 0) (.int .u32 0) (.int .i64 0) (.int .i64 0) (.int .i64 0) (.int .i64 0) (.string ⟨#[]⟩) (.slice none 0 0)
          refine bodyPost_ret (results_cell_tmp_row rfl _ _ w.heap.size _ _ _ _ rfl u1 Try.underlying41 rfl (by kernel_rfl)) rfl ?_
          exact get_zero HE.out (by decide) (by rfl) (HB.out.trans (u2.below (fun i hi e => by omega) HB.out.size))
end Go.Proofs.Ytcahflddafdhfaa
