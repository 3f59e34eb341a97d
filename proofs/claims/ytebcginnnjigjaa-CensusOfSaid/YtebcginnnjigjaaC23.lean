import Derived.Test.YtebcginnnjigjaaC22
import Derived.Test.YtebcginnnjigjaaC4
import Derived.Test.YtebcginnnjigjaaC5
section
/- Reading frames: frame.Get walked. -/
open Go.RowKit
namespace Go.Proofs.Ytebcginnnjigjaa

theorem byte_cell {w : World} {A : Option Addr} {l : List UInt8} (h : Reads w 1 A l.length (bv l)) {k : Nat} (hk : k < l.length) : ∃ ad : Addr, A = some ad ∧ w.cell? (ad.add k) = some (.int .u8 (l[k].toNat : Int)) := by
  obtain ⟨ad, rfl, hc⟩ := h.2 (by omega)
  exact ⟨ad, rfl, hc _ _ (by simp [bv, hk])⟩
set_option maxRecDepth 100000 in
theorem equalBy_any (A B : Option Addr) (l m : List UInt8) (c d : Nat) (w : World) (hr : Reads w 1 A l.length (bv l)) (hs : Reads w 1 B m.length (bv m)) (hl : l.length ≤ 140737488355328) :
    Calls Try.prog 37 #[.slice A l.length c, .slice B m.length d] w fun e w' => e = .returned (.bool (decide (l = m))) ∧ Below w.heap.size w w' := by
  have Hr := Lib.hid hr
  have Hs := Lib.hid hs
  clear hr hs
  by_cases hlm : l.length = m.length
  · have Hlm := Lib.hid hlm
    have hb : ((l.length : Int) != (m.length : Int)) = false := by simp [hlm]
    generalize hn : m.length = n at *
    have Hn := Lib.hid hn
    subst hlm
    clear hn
    go_enter Try.func37, Try.ntmps37
    go_wp2_with fail
    clear hb
    go_loopw [13] (fun i wr => ∃ k : Nat, k ≤ l.length ∧ i = .int .i64 k ∧ Hid (∀ j, j < k → l[j]? = m[j]?) ∧ Hid (Below w.heap.size w wr)) (fun i _ => l.length - (intOf i).toNat)
    case atStart => exact ⟨0, by omega, rfl, (fun j hj => by omega), Below.refl _ _⟩
    case round =>
      obtain ⟨k, hk, rfl, Hp, Hb⟩ := hrel
      by_cases hlt : k < l.length
      · have hlm : k < m.length := by rw [Hn.out]; exact hlt
        obtain ⟨ad, rfl, hc⟩ := byte_cell (Hr.out.below Hb.out) hlt
        have Hs2 := Lib.hid (show Reads wr 1 B m.length (bv m) from (Hn.out ▸ Hs.out).below Hb.out)
        obtain ⟨bd, rfl, hd⟩ := byte_cell Hs2.out hlm
        have e1 : l[k]? = some l[k] := List.getElem?_eq_getElem hlt
        have e2 : m[k]? = some m[k] := List.getElem?_eq_getElem hlm
        generalize l[k] = x at hc e1
        generalize m[k] = y at hd e2
        have E1 := Lib.hid e1
        have E2 := Lib.hid e2
        clear e1 e2 hlm
        by_cases hxy : x = y
        · subst hxy
          go_wp2_with fail
          go_quiet (fail)
          clear hc hd
          go_wp2_with fail
          case roundEnd =>
            refine ⟨⟨k + 1, by omega, by push_cast; rfl, Lib.hid fun j hj => ?_, Lib.hid (Hb.out.trans ⟨rfl, rfl, rfl, Nat.le_refl _, fun _ _ => rfl⟩)⟩, by simp only [intOf]; omega⟩
            by_cases h : j = k
            · subst h; rw [E1.out, E2.out]
            · exact Hp.out j (by omega)
        · have hne : ((x.toNat : Int) != (y.toNat : Int)) = true := by rw [bne_iff_ne]; exact fun e => hxy (UInt8.toNat_inj.1 (by omega))
          have Hd : Hid (decide (l = m) = false) := Lib.hid (decide_eq_false fun h => hxy (by have h1 := E1.out; rw [h, E2.out] at h1; exact (Option.some.inj h1).symm))
          clear hxy
          go_wp2_with fail
          go_quiet (fail)
          clear hc hd
          go_wp2_with fail
          go_ret
          exact ⟨by rw [Hd.out]; rfl, Hb.out.trans ⟨rfl, rfl, rfl, Nat.le_refl _, fun _ _ => rfl⟩⟩
      · obtain rfl : k = l.length := by omega
        have Hd : Hid (decide (l = m) = true) := Lib.hid (decide_eq_true (List.ext_getElem? fun j => by
          by_cases h : j < l.length
          · exact Hp.out j h
          · rw [List.getElem?_eq_none (by omega), List.getElem?_eq_none (by rw [Hn.out]; omega)]))
        go_wp2_with fail
        go_ret
        exact ⟨by rw [Hd.out]; rfl, Hb.out⟩
  · have hb : ((l.length : Int) != (m.length : Int)) = true := by rw [bne_iff_ne]; omega
    have Hd : Hid (decide (l = m) = false) := Lib.hid (decide_eq_false fun h => hlm (by rw [h]))
    clear hlm
    go_enter Try.func37, Try.ntmps37
    go_wp2_with fail
    go_ret
    exact ⟨by rw [Hd.out]; rfl, Below.refl _ _⟩


theorem tN_size (s : RdS) (k : Nat) : (tN s k).size ≤ k := by
  unfold tN
  show (rBytes s.1 s.2 (k : Int)).toArray.size ≤ k
  unfold rBytes
  split
  · simp; omega
  · simp
theorem tList_sizes (s : RdS) (n : Nat) : ∀ x ∈ (tList s n).1, x.size ≤ 32 := by
  induction n with
  | zero => rw [tList_zero]; intro x hx; cases hx
  | succ n ih =>
    rw [tList_succ]
    intro x hx
    rcases List.mem_append.1 hx with h | h
    · exact ih x h
    · rw [List.mem_singleton.1 h]; exact tN_size _ _
theorem flat_size (l : List ByteArray) (h : ∀ x ∈ l, x.size ≤ 32) : (l.flatMap bl).length ≤ 32 * l.length := by
  induction l with
  | nil => simp
  | cons a l ih =>
    rw [List.flatMap_cons, List.length_append, List.length_cons, bl_length]
    have := ih (fun x hx => h x (List.mem_cons_of_mem _ hx))
    have := h a (List.mem_cons_self ..)
    omega
theorem bodyL_len (x : Fr) : (bodyL x).length ≤ 7 + x.d.size + (x.l.flatMap bl).length := by
  unfold bodyL
  repeat' split
  all_goals simp only [List.length_append, be_length, bl_length, List.length_nil]
  all_goals omega
/-- A frame that was read: sizes. -/
def FrSm (x : Fr) : Prop := x.d.size ≤ 64 ∧ x.l.length ≤ 255 ∧ (∀ t ∈ x.l, t.size ≤ 32)
theorem readF_ok (l : List UInt8) : FrOk (readF l).1 ∧ FrSm (readF l).1 := by
  have h8 : (256 : Nat) ^ 8 = 18446744073709551616 := by decide
  have h4 : (256 : Nat) ^ 4 = 4294967296 := by decide
  have a1 := nN_lt (nS (l, 0) 1) 8
  have a2 := nN_lt (nS (nS (l, 0) 1) 8) 8
  have a3 := nN_lt (nS (nS (nS (l, 0) 1) 8) 8) 4
  rw [h8] at a1 a2
  rw [h4] at a3
  unfold readF readB rdF
  dsimp only
  split
  · exact ⟨⟨a1, a2, a3, Nat.zero_lt_of_lt a3⟩, Nat.zero_le _, Nat.zero_le _, fun t ht => by cases ht⟩
  split
  · exact ⟨⟨a1, a2, a3, by have := nN_lt (rdS l) 4; rw [h4] at this; exact this⟩, Nat.le_trans (tN_size _ _) (by decide), Nat.zero_le _, fun t ht => by cases ht⟩
  split
  · exact ⟨⟨a1, a2, a3, Nat.zero_lt_of_lt a3⟩, Nat.zero_le _, Nat.zero_le _, fun t ht => by cases ht⟩
  split
  · refine ⟨⟨a1, a2, a3, Nat.zero_lt_of_lt a3⟩, Nat.zero_le _, ?_, ?_⟩
    · show (tList _ _).1.length ≤ 255
      rw [tList_len]
      have := nN_lt (nS (rdS l) 2) 1
      omega
    · exact tList_sizes _ _
  split
  · exact ⟨⟨a1, a2, a3, Nat.zero_lt_of_lt a3⟩, tN_size _ _, Nat.zero_le _, fun t ht => by cases ht⟩
  · exact ⟨⟨a1, a2, a3, Nat.zero_lt_of_lt a3⟩, Nat.zero_le _, Nat.zero_le _, fun t ht => by cases ht⟩
theorem FrSm.body {x : Fr} (h : FrSm x) : (bodyL x).length ≤ 100000000 := by
  have h1 := bodyL_len x
  have h2 := flat_size x.l h.2.2
  have h3 := h.1
  have h4 := h.2.1
  omega

def gLen (l : List UInt8) : Nat := gNum l 21 2
def getE (l : List UInt8) : Nat :=
  if l.length < 27 then 7 else if l.length < 27 + gLen l then 7 else if 27 + gLen l < l.length then 8
  else if gNum l (23 + gLen l : Nat) 4 ≠ crcAdd 0 (l.take (23 + gLen l)) then 9
  else if okS (readF l).2 = false then 6 else if putE (readF l).1 ≠ 0 ∨ l ≠ putL (readF l).1 then 6 else 0
def getX (l : List UInt8) : Fr := if getE l = 0 then (readF l).1 else fr0
theorem getX_bad {l : List UInt8} (h : getE l ≠ 0) : getX l = fr0 := by unfold getX; rw [if_neg h]
theorem getX_ok {l : List UInt8} (h : getE l = 0) : getX l = (readF l).1 := by unfold getX; rw [if_pos h]
section
variable {l : List UInt8}
theorem getE_1 (h1 : l.length < 27) : getE l = 7 := by unfold getE; rw [if_pos h1]
theorem getE_2 (h1 : ¬ l.length < 27) (h2 : l.length < 27 + gLen l) : getE l = 7 := by unfold getE; rw [if_neg h1, if_pos h2]
theorem getE_3 (h1 : ¬ l.length < 27) (h3 : 27 + gLen l < l.length) : getE l = 8 := by unfold getE; rw [if_neg h1, if_neg (by omega), if_pos h3]
theorem getE_4 (h1 : ¬ l.length < 27) (h3 : l.length = 27 + gLen l) (h4 : gNum l (23 + gLen l : Nat) 4 ≠ crcAdd 0 (l.take (23 + gLen l))) : getE l = 9 := by unfold getE; rw [if_neg h1, if_neg (by omega), if_neg (by omega), if_pos h4]
theorem getE_5 (h1 : ¬ l.length < 27) (h3 : l.length = 27 + gLen l) (h4 : gNum l (23 + gLen l : Nat) 4 = crcAdd 0 (l.take (23 + gLen l))) (h5 : okS (readF l).2 = false) : getE l = 6 := by unfold getE; rw [if_neg h1, if_neg (by omega), if_neg (by omega), if_neg (fun h => h h4), if_pos h5]
theorem getE_6 (h1 : ¬ l.length < 27) (h3 : l.length = 27 + gLen l) (h4 : gNum l (23 + gLen l : Nat) 4 = crcAdd 0 (l.take (23 + gLen l))) (h5 : okS (readF l).2 = true) (h6 : putE (readF l).1 ≠ 0 ∨ l ≠ putL (readF l).1) : getE l = 6 := by unfold getE; rw [if_neg h1, if_neg (by omega), if_neg (by omega), if_neg (fun h => h h4), if_neg (by rw [h5]; decide), if_pos h6]
theorem getE_7 (h1 : ¬ l.length < 27) (h3 : l.length = 27 + gLen l) (h4 : gNum l (23 + gLen l : Nat) 4 = crcAdd 0 (l.take (23 + gLen l))) (h5 : okS (readF l).2 = true) (h6 : ¬ (putE (readF l).1 ≠ 0 ∨ l ≠ putL (readF l).1)) : getE l = 0 := by unfold getE; rw [if_neg h1, if_neg (by omega), if_neg (by omega), if_neg (fun h => h h4), if_neg (by rw [h5]; decide), if_neg h6]
theorem gLen_lt : gLen l < 65536 := gNum_lt l 21 2
end
attribute [irreducible] getE gLen

theorem get_zero {w w' : World} {l : List UInt8} {e : Nat} {v : Int} (he : getE l = e) (h0 : e ≠ 0) (hv : (e : Int) = v) (hb : Below w.heap.size w w') : ∃ A c, Ending.returned (.tuple #[.agg #[.int .i64 0, .int .u64 0, .int .u64 0, .int .u32 0, .int .u32 0, .int .i64 0, .int .i64 0, .int .i64 0, .int .i64 0, .string ⟨#[]⟩, .slice none 0 0], .int .i64 v]) = .returned (.tuple #[.agg ((getX l).cells A c), .int .i64 (getE l : Nat)]) ∧ SOut w w' A c (getX l).l := by
  rw [getX_bad (by rw [he]; exact h0), he, hv]
  exact ⟨none, 0, rfl, SRow.nil _, by simp [blk], hb⟩
set_option maxHeartbeats 4000000 in
set_option maxRecDepth 100000 in
theorem frGet_any (w : World) (A0 : Option Addr) (c0 : Nat) (l : List UInt8) (hr : Reads w 1 A0 l.length (bv l)) (hc : l.length ≤ c0) (hl : l.length ≤ 1000000) :
    Calls Try.prog 20 #[.slice A0 l.length c0] w fun e w' => ∃ A c, e = .returned (.tuple #[.agg ((getX l).cells A c), .int .i64 (getE l : Nat)]) ∧ SOut w w' A c (getX l).l := by
  obtain ⟨hb1, hg1, hs1⟩ := alloc1 w fr0c 58
  have Hr := Lib.hid (hr.below hb1)
  have HB := Lib.hid hb1
  unfold fr0c at hg1 HB Hr
  obtain ⟨y0, y1, y2, y3, y4, y5, y6, y7, y8, y9, y10⟩ := cells11 hg1
  obtain ⟨z0, z1, z2, z3, z4, z5, z6, z7, z8, z9, z10⟩ := froz11 hg1
  have H2 := Lib.hid hg1
  have HC := Lib.hid (And.intro hc hl)
  clear hr hb1 hg1 hs1
  by_cases h1 : l.length < 27
  · have HE := Lib.hid (getE_1 h1)
    clear hc hl HC
    go_enter Try.func20, Try.ntmps20
    go_wp2_with fail
    refine bodyPost_ret (results_cell_tmp_row rfl _ _ w.heap.size _ _ _ _ rfl H2.out Try.underlying58 rfl (by kernel_rfl)) rfl ?_
    exact get_zero HE.out (by decide) (by rfl) HB.out
  · have hlt := gLen_lt (l := l)
    have HG := Lib.hid (get_any A0 l c0 21 2 _ Hr.out hc (by unfold maxLen; omega))
    rw [gErr_ok (by omega) (by omega)] at HG
    have hgl : gNum l 21 2 = gLen l := by unfold gLen; rfl
    rw [hgl] at HG
    have HH1 := Lib.hid h1
    obtain ⟨n, hn⟩ : ∃ n, gLen l = n := ⟨_, rfl⟩
    have HN := Lib.hid hn
    rw [hn] at HG hlt
    have hwi := wrapI_nat (n := n) (by omega)
    clear hn hgl hc hl
    by_cases h2 : l.length < 27 + n
    · have HE := Lib.hid (getE_2 HH1.out (by rw [HN.out]; exact h2))
      go_enter Try.func20, Try.ntmps20
      go_wp2_with fail
      refine HG.out.mono ?_
      rintro e w1 ⟨rfl, hw⟩
      rw [hw] at H2 HB Hr y0 y1 y2 y3 y4 y5 y6 y7 y8 y9 y10 z0 z1 z2 z3 z4 z5 z6 z7 z8 z9 z10
      clear hw HG
      go_wp2_with fail
      obtain ⟨u1, u2⟩ := set11 H2.out (mk11 _ _ _ _ _ _ _ _ _ _ _) (.int .i64 0) (.int .u64 0) (.int .u64 0) (.int .u32 0) (.int .u32 0) (.int .i64 0) (.int .i64 0) (.int .i64 0) (.int .i64 0) (.string ⟨#[]⟩) (.slice none 0 0)
      refine bodyPost_ret (results_cell_tmp_row rfl _ _ w.heap.size _ _ _ _ rfl u1 Try.underlying58 rfl (by kernel_rfl)) rfl ?_
      exact get_zero HE.out (by decide) (by rfl) (HB.out.trans (u2.below (fun i hi e => by omega) HB.out.size))
    · by_cases h3 : 27 + n < l.length
      · have HE := Lib.hid (getE_3 HH1.out (by rw [HN.out]; exact h3))
        go_enter Try.func20, Try.ntmps20
        go_wp2_with fail
        refine HG.out.mono ?_
        rintro e w1 ⟨rfl, hw⟩
        rw [hw] at H2 HB Hr y0 y1 y2 y3 y4 y5 y6 y7 y8 y9 y10 z0 z1 z2 z3 z4 z5 z6 z7 z8 z9 z10
        clear hw HG
        go_wp2_with fail
        obtain ⟨u1, u2⟩ := set11 H2.out (mk11 _ _ _ _ _ _ _ _ _ _ _) (.int .i64 0) (.int .u64 0) (.int .u64 0) (.int .u32 0) (.int .u32 0) (.int .i64 0) (.int .i64 0) (.int .i64 0) (.int .i64 0) (.string ⟨#[]⟩) (.slice none 0 0)
        refine bodyPost_ret (results_cell_tmp_row rfl _ _ w.heap.size _ _ _ _ rfl u1 Try.underlying58 rfl (by kernel_rfl)) rfl ?_
        exact get_zero HE.out (by decide) (by rfl) (HB.out.trans (u2.below (fun i hi e => by omega) HB.out.size))
      · have HLn := Lib.hid (show l.length = 27 + n by omega)
        have hS : gNum l (23 + (n : Int)) 4 < 4294967296 := gNum_lt l (23 + (n : Int)) 4
        have hcut : ∀ W : World, (Instr.slice 61 (.slice A0 l.length c0) none (some (.int .i64 (23 + (n : Int)))) none).run Try.prog W = .ok (.slice A0 (23 + n) c0) W := fun W => by
          have h := (cutB_to A0 c0 l (23 + n) (by omega) HC.out.1).1 W
          push_cast at h
          exact h
        have HCut := Lib.hid (fun w => (cutB_to A0 c0 l (23 + n) (by omega) HC.out.1).2 w)
        have HTk := Lib.hid (show (l.take (23 + n)).length = 23 + n by rw [List.length_take]; omega)
        have HE4 := Lib.hid (show gErr l.length (23 + (n : Int)) 4 = 0 from gErr_ok (by omega) (by omega))
        obtain ⟨S, hSe⟩ : ∃ S, gNum l (23 + (n : Int)) 4 = S := ⟨_, rfl⟩
        rw [hSe] at hS
        have HSe := Lib.hid (show gNum l (23 + gLen l : Nat) 4 = S by rw [HN.out, ← hSe]; push_cast; rfl)
        have HSe0 := Lib.hid hSe
        have hw32 := wrap32_nat (n := S) hS
        obtain ⟨C, hCe⟩ : ∃ C, crcAdd 0 (l.take (23 + n)) = C := ⟨_, rfl⟩
        have HCe := Lib.hid (show crcAdd 0 (l.take (23 + gLen l)) = C by rw [HN.out, hCe])
        have HCe0 := Lib.hid hCe
        clear hSe hCe hS
        by_cases h4 : S = C
        · have hne : ((S : Int) != (C : Int)) = false := by rw [h4]; simp
          have HH4 := Lib.hid (show gNum l (23 + gLen l : Nat) 4 = crcAdd 0 (l.take (23 + gLen l)) by rw [HSe.out, HCe.out, h4])
          have HL3 := Lib.hid (show l.length = 27 + gLen l by rw [HN.out]; exact HLn.out)
          clear h4
          obtain ⟨x, hx⟩ : ∃ x, (readF l).1 = x := ⟨_, rfl⟩
          obtain ⟨ok, hok⟩ : ∃ ok, okS (readF l).2 = ok := ⟨_, rfl⟩
          have HX := Lib.hid hx
          have HOk := Lib.hid hok
          clear hx hok
          cases ok with
          | false =>
            have HE := Lib.hid (getE_5 HH1.out HL3.out HH4.out HOk.out)
            go_enter Try.func20, Try.ntmps20
            go_wp2_with fail
            refine HG.out.mono ?_
            rintro e w1 ⟨rfl, hw⟩
            rw [hw] at H2 HB Hr y0 y1 y2 y3 y4 y5 y6 y7 y8 y9 y10 z0 z1 z2 z3 z4 z5 z6 z7 z8 z9 z10
            clear hw HG
            go_wp2_with fail
            have HG := Lib.hid (get_any A0 l c0 (23 + (n : Int)) 4 _ Hr.out HC.out.1 (by have := HC.out.2; unfold maxLen; omega))
            rw [HE4.out, HSe0.out] at HG
            refine HG.out.mono ?_
            rintro e w' ⟨rfl, rfl⟩
            have HG := Lib.hid (crcSum_any A0 (l.take (23 + n)) c0 w1 (HCut.out _ Hr.out) (by rw [HTk.out]; have := HC.out.2; unfold maxLen; omega))
            rw [HTk.out, HCe0.out] at HG
            go_wp2_with fail
            refine HG.out.mono ?_
            rintro e w2 ⟨rfl, hb⟩
            have H2 := Lib.hid ((hb.block _ (Array.getElem?_eq_some_iff.1 H2.out).1).trans H2.out)
            have Hr := Lib.hid (Hr.out.below hb)
            have HB := Lib.hid (HB.out.trans (hb.mono HB.out.size))
            clear y0 y1 y2 y3 y4 y5 y6 y7 y8 y9 y10 z0 z1 z2 z3 z4 z5 z6 z7 z8 z9 z10
            obtain ⟨y0, y1, y2, y3, y4, y5, y6, y7, y8, y9, y10⟩ := cells11 H2.out
            obtain ⟨z0, z1, z2, z3, z4, z5, z6, z7, z8, z9, z10⟩ := froz11 H2.out
            clear hb HG
            have HRd := Lib.hid (frRead_any w2 A0 c0 l Hr.out HC.out.2)
            rw [HX.out, HOk.out] at HRd
            unfold Fr.cells at HRd
            go_wp2_with fail
            refine HRd.out.mono ?_
            rintro e w3 ⟨A, c, rfl, hO⟩
            have HRow := Lib.hid (show SRow w3 A c x.l ∧ ∀ k, blk A = some k → w.heap.size < k from ⟨hO.1, fun k hk => Nat.lt_of_lt_of_le (Array.getElem?_eq_some_iff.1 H2.out).1 (hO.2.1 k hk)⟩)
            have hb := hO.2.2
            clear hO HRd
            have H2 := Lib.hid ((hb.block _ (Array.getElem?_eq_some_iff.1 H2.out).1).trans H2.out)
            have Hr := Lib.hid (Hr.out.below hb)
            have HB := Lib.hid (HB.out.trans (hb.mono HB.out.size))
            clear y0 y1 y2 y3 y4 y5 y6 y7 y8 y9 y10 z0 z1 z2 z3 z4 z5 z6 z7 z8 z9 z10
            obtain ⟨y0, y1, y2, y3, y4, y5, y6, y7, y8, y9, y10⟩ := cells11 H2.out
            obtain ⟨z0, z1, z2, z3, z4, z5, z6, z7, z8, z9, z10⟩ := froz11 H2.out
            clear hb
            have hb := (alloc1 w3 #[.int .i64 x.k, .int .u64 (x.s : Int), .int .u64 (x.e : Int), .int .u32 (x.q : Int), .int .u32 (x.v : Int), .int .i64 x.n, .int .i64 x.f, .int .i64 x.i, .int .i64 x.c, .string x.d, .slice A x.l.length c] 58).1
            have H2 := Lib.hid ((hb.block _ (Array.getElem?_eq_some_iff.1 H2.out).1).trans H2.out)
            have Hr := Lib.hid (Hr.out.below hb)
            have HB := Lib.hid (HB.out.trans (hb.mono HB.out.size))
            clear y0 y1 y2 y3 y4 y5 y6 y7 y8 y9 y10 z0 z1 z2 z3 z4 z5 z6 z7 z8 z9 z10
            obtain ⟨y0, y1, y2, y3, y4, y5, y6, y7, y8, y9, y10⟩ := cells11 H2.out
            obtain ⟨z0, z1, z2, z3, z4, z5, z6, z7, z8, z9, z10⟩ := froz11 H2.out
            clear hb
            go_wp2_with fail
            obtain ⟨u1, u2⟩ := set11 H2.out (mk11 _ _ _ _ _ _ _ _ _ _ _) (.int .i64 0) (.int .u64 0) (.int .u64 0) (.int .u32 0) (.int .u32 0) (.int .i64 0) (.int .i64 0) (.int .i64 0) (.int .i64 0) (.string ⟨#[]⟩) (.slice none 0 0)
            refine bodyPost_ret (results_cell_tmp_row rfl _ _ w.heap.size _ _ _ _ rfl u1 Try.underlying58 rfl (by kernel_rfl)) rfl ?_
            exact get_zero HE.out (by decide) (by rfl) (HB.out.trans (u2.below (fun i hi e => by omega) HB.out.size))
          | true =>
            have HXok := Lib.hid (readF_ok l)
            rw [HX.out] at HXok
            obtain ⟨pe, hpe⟩ : ∃ pe, putE x = pe := ⟨_, rfl⟩
            have HPe := Lib.hid hpe
            clear hpe
            by_cases h6 : pe = 0
            · have hn6 : ((pe : Int) != 0) = false := by rw [h6]; rfl
              have H6 := Lib.hid h6
              clear h6
              by_cases h7 : l = putL x
              · have HEq := Lib.hid (decide_eq_true h7)
                have HE := Lib.hid (getE_7 HH1.out HL3.out HH4.out HOk.out (by rw [HX.out, HPe.out]; exact fun h => h.elim (fun h => h H6.out) (fun h => h h7)))
                clear h7
                go_enter Try.func20, Try.ntmps20
                go_wp2_with fail
                refine HG.out.mono ?_
                rintro e w1 ⟨rfl, hw⟩
                rw [hw] at H2 HB Hr y0 y1 y2 y3 y4 y5 y6 y7 y8 y9 y10 z0 z1 z2 z3 z4 z5 z6 z7 z8 z9 z10
                clear hw HG
                go_wp2_with fail
                have HG := Lib.hid (get_any A0 l c0 (23 + (n : Int)) 4 _ Hr.out HC.out.1 (by have := HC.out.2; unfold maxLen; omega))
                rw [HE4.out, HSe0.out] at HG
                refine HG.out.mono ?_
                rintro e w' ⟨rfl, rfl⟩
                have HG := Lib.hid (crcSum_any A0 (l.take (23 + n)) c0 w1 (HCut.out _ Hr.out) (by rw [HTk.out]; have := HC.out.2; unfold maxLen; omega))
                rw [HTk.out, HCe0.out] at HG
                go_wp2_with fail
                refine HG.out.mono ?_
                rintro e w2 ⟨rfl, hb⟩
                have H2 := Lib.hid ((hb.block _ (Array.getElem?_eq_some_iff.1 H2.out).1).trans H2.out)
                have Hr := Lib.hid (Hr.out.below hb)
                have HB := Lib.hid (HB.out.trans (hb.mono HB.out.size))
                clear y0 y1 y2 y3 y4 y5 y6 y7 y8 y9 y10 z0 z1 z2 z3 z4 z5 z6 z7 z8 z9 z10
                obtain ⟨y0, y1, y2, y3, y4, y5, y6, y7, y8, y9, y10⟩ := cells11 H2.out
                obtain ⟨z0, z1, z2, z3, z4, z5, z6, z7, z8, z9, z10⟩ := froz11 H2.out
                clear hb HG
                have HRd := Lib.hid (frRead_any w2 A0 c0 l Hr.out HC.out.2)
                rw [HX.out, HOk.out] at HRd
                unfold Fr.cells at HRd
                go_wp2_with fail
                refine HRd.out.mono ?_
                rintro e w3 ⟨A, c, rfl, hO⟩
                have HRow := Lib.hid (show SRow w3 A c x.l ∧ ∀ k, blk A = some k → w.heap.size < k from ⟨hO.1, fun k hk => Nat.lt_of_lt_of_le (Array.getElem?_eq_some_iff.1 H2.out).1 (hO.2.1 k hk)⟩)
                have hb := hO.2.2
                clear hO HRd
                have H2 := Lib.hid ((hb.block _ (Array.getElem?_eq_some_iff.1 H2.out).1).trans H2.out)
                have Hr := Lib.hid (Hr.out.below hb)
                have HB := Lib.hid (HB.out.trans (hb.mono HB.out.size))
                clear y0 y1 y2 y3 y4 y5 y6 y7 y8 y9 y10 z0 z1 z2 z3 z4 z5 z6 z7 z8 z9 z10
                obtain ⟨y0, y1, y2, y3, y4, y5, y6, y7, y8, y9, y10⟩ := cells11 H2.out
                obtain ⟨z0, z1, z2, z3, z4, z5, z6, z7, z8, z9, z10⟩ := froz11 H2.out
                clear hb
                have hb := (alloc1 w3 #[.int .i64 x.k, .int .u64 (x.s : Int), .int .u64 (x.e : Int), .int .u32 (x.q : Int), .int .u32 (x.v : Int), .int .i64 x.n, .int .i64 x.f, .int .i64 x.i, .int .i64 x.c, .string x.d, .slice A x.l.length c] 58).1
                have H2 := Lib.hid ((hb.block _ (Array.getElem?_eq_some_iff.1 H2.out).1).trans H2.out)
                have Hr := Lib.hid (Hr.out.below hb)
                have HB := Lib.hid (HB.out.trans (hb.mono HB.out.size))
                clear y0 y1 y2 y3 y4 y5 y6 y7 y8 y9 y10 z0 z1 z2 z3 z4 z5 z6 z7 z8 z9 z10
                obtain ⟨y0, y1, y2, y3, y4, y5, y6, y7, y8, y9, y10⟩ := cells11 H2.out
                obtain ⟨z0, z1, z2, z3, z4, z5, z6, z7, z8, z9, z10⟩ := froz11 H2.out
                have hg := (alloc1 w3 #[.int .i64 x.k, .int .u64 (x.s : Int), .int .u64 (x.e : Int), .int .u32 (x.q : Int), .int .u32 (x.v : Int), .int .i64 x.n, .int .i64 x.f, .int .i64 x.i, .int .i64 x.c, .string x.d, .slice A x.l.length c] 58).2.1
                obtain ⟨d0, d1, d2, d3, d4, d5, d6, d7, d8, d9, d10⟩ := cells11 hg
                have HG4 := Lib.hid hg
                have HRow := Lib.hid (And.intro (HRow.out.1.below hb) HRow.out.2)
                have HP := Lib.hid (framePut_any _ x A c HRow.out.1.reads HXok.out.2.body (by have := HXok.out.2.2.1; omega) HXok.out.1)
                unfold Fr.cells at HP
                rw [HPe.out] at HP
                clear hg hb
                go_wp2_with fail
                refine HP.out.mono ?_
                rintro e w5 ⟨A1, c1, rfl, hO⟩
                have hb := hO.2.2
                have HBy := Lib.hid hO.1
                have HG4 := Lib.hid ((hb.block _ (Array.getElem?_eq_some_iff.1 HG4.out).1).trans HG4.out)
                have HRow := Lib.hid (And.intro (HRow.out.1.below hb) HRow.out.2)
                clear HP d0 d1 d2 d3 d4 d5 d6 d7 d8 d9 d10
                have H2 := Lib.hid ((hb.block _ (Array.getElem?_eq_some_iff.1 H2.out).1).trans H2.out)
                have Hr := Lib.hid (Hr.out.below hb)
                have HB := Lib.hid (HB.out.trans (hb.mono HB.out.size))
                clear y0 y1 y2 y3 y4 y5 y6 y7 y8 y9 y10 z0 z1 z2 z3 z4 z5 z6 z7 z8 z9 z10
                obtain ⟨y0, y1, y2, y3, y4, y5, y6, y7, y8, y9, y10⟩ := cells11 H2.out
                obtain ⟨z0, z1, z2, z3, z4, z5, z6, z7, z8, z9, z10⟩ := froz11 H2.out
                clear hO hb
                obtain ⟨d0, d1, d2, d3, d4, d5, d6, d7, d8, d9, d10⟩ := cells11 HG4.out
                generalize w3.heap.size = bf at HG4 d0 d1 d2 d3 d4 d5 d6 d7 d8 d9 d10 ⊢
                go_wp2_with fail
                refine (equalBy_any A0 A1 l (putL x) c0 c1 w5 Hr.out HBy.out.reads (by have := HC.out.2; omega)).mono ?_
                rw [HEq.out]
                rintro e w6 ⟨rfl, hb⟩
                have HG4 := Lib.hid ((hb.block _ (Array.getElem?_eq_some_iff.1 HG4.out).1).trans HG4.out)
                have HRow := Lib.hid (And.intro (HRow.out.1.below hb) HRow.out.2)
                clear d0 d1 d2 d3 d4 d5 d6 d7 d8 d9 d10
                have H2 := Lib.hid ((hb.block _ (Array.getElem?_eq_some_iff.1 H2.out).1).trans H2.out)
                have Hr := Lib.hid (Hr.out.below hb)
                have HB := Lib.hid (HB.out.trans (hb.mono HB.out.size))
                clear y0 y1 y2 y3 y4 y5 y6 y7 y8 y9 y10 z0 z1 z2 z3 z4 z5 z6 z7 z8 z9 z10
                obtain ⟨y0, y1, y2, y3, y4, y5, y6, y7, y8, y9, y10⟩ := cells11 H2.out
                obtain ⟨z0, z1, z2, z3, z4, z5, z6, z7, z8, z9, z10⟩ := froz11 H2.out
                clear hb
                obtain ⟨d0, d1, d2, d3, d4, d5, d6, d7, d8, d9, d10⟩ := cells11 HG4.out
                go_wp2_with fail
                obtain ⟨u1, u2⟩ := set11 H2.out (mk11 _ _ _ _ _ _ _ _ _ _ _) (.int .i64 x.k) (.int .u64 (x.s : Int)) (.int .u64 (x.e : Int)) (.int .u32 (x.q : Int)) (.int .u32 (x.v : Int)) (.int .i64 x.n) (.int .i64 x.f) (.int .i64 x.i) (.int .i64 x.c) (.string x.d) (.slice A x.l.length c)
                refine bodyPost_ret (results_cell_tmp_row rfl _ _ w.heap.size _ _ _ _ rfl u1 Try.underlying58 rfl (by kernel_rfl)) rfl ?_
                refine ⟨A, c, by rw [getX_ok HE.out, HX.out, HE.out]; rfl, ?_⟩
                rw [getX_ok HE.out, HX.out]
                exact ⟨HRow.out.1.chg u2 (fun k hk e => by have := HRow.out.2 k hk; omega), fun k hk => Nat.le_of_lt (HRow.out.2 k hk), HB.out.trans (u2.below (fun i hi e => by omega) HB.out.size)⟩
              · have HEq := Lib.hid (decide_eq_false h7)
                have HE := Lib.hid (getE_6 HH1.out HL3.out HH4.out HOk.out (.inr (by rw [HX.out]; exact h7)))
                clear h7
                go_enter Try.func20, Try.ntmps20
                go_wp2_with fail
                refine HG.out.mono ?_
                rintro e w1 ⟨rfl, hw⟩
                rw [hw] at H2 HB Hr y0 y1 y2 y3 y4 y5 y6 y7 y8 y9 y10 z0 z1 z2 z3 z4 z5 z6 z7 z8 z9 z10
                clear hw HG
                go_wp2_with fail
                have HG := Lib.hid (get_any A0 l c0 (23 + (n : Int)) 4 _ Hr.out HC.out.1 (by have := HC.out.2; unfold maxLen; omega))
                rw [HE4.out, HSe0.out] at HG
                refine HG.out.mono ?_
                rintro e w' ⟨rfl, rfl⟩
                have HG := Lib.hid (crcSum_any A0 (l.take (23 + n)) c0 w1 (HCut.out _ Hr.out) (by rw [HTk.out]; have := HC.out.2; unfold maxLen; omega))
                rw [HTk.out, HCe0.out] at HG
                go_wp2_with fail
                refine HG.out.mono ?_
                rintro e w2 ⟨rfl, hb⟩
                have H2 := Lib.hid ((hb.block _ (Array.getElem?_eq_some_iff.1 H2.out).1).trans H2.out)
                have Hr := Lib.hid (Hr.out.below hb)
                have HB := Lib.hid (HB.out.trans (hb.mono HB.out.size))
                clear y0 y1 y2 y3 y4 y5 y6 y7 y8 y9 y10 z0 z1 z2 z3 z4 z5 z6 z7 z8 z9 z10
                obtain ⟨y0, y1, y2, y3, y4, y5, y6, y7, y8, y9, y10⟩ := cells11 H2.out
                obtain ⟨z0, z1, z2, z3, z4, z5, z6, z7, z8, z9, z10⟩ := froz11 H2.out
                clear hb HG
                have HRd := Lib.hid (frRead_any w2 A0 c0 l Hr.out HC.out.2)
                rw [HX.out, HOk.out] at HRd
                unfold Fr.cells at HRd
                go_wp2_with fail
                refine HRd.out.mono ?_
                rintro e w3 ⟨A, c, rfl, hO⟩
                have HRow := Lib.hid (show SRow w3 A c x.l ∧ ∀ k, blk A = some k → w.heap.size < k from ⟨hO.1, fun k hk => Nat.lt_of_lt_of_le (Array.getElem?_eq_some_iff.1 H2.out).1 (hO.2.1 k hk)⟩)
                have hb := hO.2.2
                clear hO HRd
                have H2 := Lib.hid ((hb.block _ (Array.getElem?_eq_some_iff.1 H2.out).1).trans H2.out)
                have Hr := Lib.hid (Hr.out.below hb)
                have HB := Lib.hid (HB.out.trans (hb.mono HB.out.size))
                clear y0 y1 y2 y3 y4 y5 y6 y7 y8 y9 y10 z0 z1 z2 z3 z4 z5 z6 z7 z8 z9 z10
                obtain ⟨y0, y1, y2, y3, y4, y5, y6, y7, y8, y9, y10⟩ := cells11 H2.out
                obtain ⟨z0, z1, z2, z3, z4, z5, z6, z7, z8, z9, z10⟩ := froz11 H2.out
                clear hb
                have hb := (alloc1 w3 #[.int .i64 x.k, .int .u64 (x.s : Int), .int .u64 (x.e : Int), .int .u32 (x.q : Int), .int .u32 (x.v : Int), .int .i64 x.n, .int .i64 x.f, .int .i64 x.i, .int .i64 x.c, .string x.d, .slice A x.l.length c] 58).1
                have H2 := Lib.hid ((hb.block _ (Array.getElem?_eq_some_iff.1 H2.out).1).trans H2.out)
                have Hr := Lib.hid (Hr.out.below hb)
                have HB := Lib.hid (HB.out.trans (hb.mono HB.out.size))
                clear y0 y1 y2 y3 y4 y5 y6 y7 y8 y9 y10 z0 z1 z2 z3 z4 z5 z6 z7 z8 z9 z10
                obtain ⟨y0, y1, y2, y3, y4, y5, y6, y7, y8, y9, y10⟩ := cells11 H2.out
                obtain ⟨z0, z1, z2, z3, z4, z5, z6, z7, z8, z9, z10⟩ := froz11 H2.out
                have hg := (alloc1 w3 #[.int .i64 x.k, .int .u64 (x.s : Int), .int .u64 (x.e : Int), .int .u32 (x.q : Int), .int .u32 (x.v : Int), .int .i64 x.n, .int .i64 x.f, .int .i64 x.i, .int .i64 x.c, .string x.d, .slice A x.l.length c] 58).2.1
                obtain ⟨d0, d1, d2, d3, d4, d5, d6, d7, d8, d9, d10⟩ := cells11 hg
                have HG4 := Lib.hid hg
                have HRow := Lib.hid (And.intro (HRow.out.1.below hb) HRow.out.2)
                have HP := Lib.hid (framePut_any _ x A c HRow.out.1.reads HXok.out.2.body (by have := HXok.out.2.2.1; omega) HXok.out.1)
                unfold Fr.cells at HP
                rw [HPe.out] at HP
                clear hg hb
                go_wp2_with fail
                refine HP.out.mono ?_
                rintro e w5 ⟨A1, c1, rfl, hO⟩
                have hb := hO.2.2
                have HBy := Lib.hid hO.1
                have HG4 := Lib.hid ((hb.block _ (Array.getElem?_eq_some_iff.1 HG4.out).1).trans HG4.out)
                have HRow := Lib.hid (And.intro (HRow.out.1.below hb) HRow.out.2)
                clear HP d0 d1 d2 d3 d4 d5 d6 d7 d8 d9 d10
                have H2 := Lib.hid ((hb.block _ (Array.getElem?_eq_some_iff.1 H2.out).1).trans H2.out)
                have Hr := Lib.hid (Hr.out.below hb)
                have HB := Lib.hid (HB.out.trans (hb.mono HB.out.size))
                clear y0 y1 y2 y3 y4 y5 y6 y7 y8 y9 y10 z0 z1 z2 z3 z4 z5 z6 z7 z8 z9 z10
                obtain ⟨y0, y1, y2, y3, y4, y5, y6, y7, y8, y9, y10⟩ := cells11 H2.out
                obtain ⟨z0, z1, z2, z3, z4, z5, z6, z7, z8, z9, z10⟩ := froz11 H2.out
                clear hO hb
                obtain ⟨d0, d1, d2, d3, d4, d5, d6, d7, d8, d9, d10⟩ := cells11 HG4.out
                generalize w3.heap.size = bf at HG4 d0 d1 d2 d3 d4 d5 d6 d7 d8 d9 d10 ⊢
                go_wp2_with fail
                refine (equalBy_any A0 A1 l (putL x) c0 c1 w5 Hr.out HBy.out.reads (by have := HC.out.2; omega)).mono ?_
                rw [HEq.out]
                rintro e w6 ⟨rfl, hb⟩
                have HG4 := Lib.hid ((hb.block _ (Array.getElem?_eq_some_iff.1 HG4.out).1).trans HG4.out)
                have HRow := Lib.hid (And.intro (HRow.out.1.below hb) HRow.out.2)
                clear d0 d1 d2 d3 d4 d5 d6 d7 d8 d9 d10
                have H2 := Lib.hid ((hb.block _ (Array.getElem?_eq_some_iff.1 H2.out).1).trans H2.out)
                have Hr := Lib.hid (Hr.out.below hb)
                have HB := Lib.hid (HB.out.trans (hb.mono HB.out.size))
                clear y0 y1 y2 y3 y4 y5 y6 y7 y8 y9 y10 z0 z1 z2 z3 z4 z5 z6 z7 z8 z9 z10
                obtain ⟨y0, y1, y2, y3, y4, y5, y6, y7, y8, y9, y10⟩ := cells11 H2.out
                obtain ⟨z0, z1, z2, z3, z4, z5, z6, z7, z8, z9, z10⟩ := froz11 H2.out
                clear hb
                obtain ⟨d0, d1, d2, d3, d4, d5, d6, d7, d8, d9, d10⟩ := cells11 HG4.out
                go_wp2_with fail
                obtain ⟨u1, u2⟩ := set11 H2.out (mk11 _ _ _ _ _ _ _ _ _ _ _) (.int .i64 0) (.int .u64 0) (.int .u64 0) (.int .u32 0) (.int .u32 0) (.int .i64 0) (.int .i64 0) (.int .i64 0) (.int .i64 0) (.string ⟨#[]⟩) (.slice none 0 0)
                refine bodyPost_ret (results_cell_tmp_row rfl _ _ w.heap.size _ _ _ _ rfl u1 Try.underlying58 rfl (by kernel_rfl)) rfl ?_
                exact get_zero HE.out (by decide) (by rfl) (HB.out.trans (u2.below (fun i hi e => by omega) HB.out.size))
            · have hn6 : ((pe : Int) != 0) = true := by rw [bne_iff_ne]; omega
              have HE := Lib.hid (getE_6 HH1.out HL3.out HH4.out HOk.out (.inl (by rw [HX.out, HPe.out]; exact h6)))
              clear h6
              go_enter Try.func20, Try.ntmps20
              go_wp2_with fail
              refine HG.out.mono ?_
              rintro e w1 ⟨rfl, hw⟩
              rw [hw] at H2 HB Hr y0 y1 y2 y3 y4 y5 y6 y7 y8 y9 y10 z0 z1 z2 z3 z4 z5 z6 z7 z8 z9 z10
              clear hw HG
              go_wp2_with fail
              have HG := Lib.hid (get_any A0 l c0 (23 + (n : Int)) 4 _ Hr.out HC.out.1 (by have := HC.out.2; unfold maxLen; omega))
              rw [HE4.out, HSe0.out] at HG
              refine HG.out.mono ?_
              rintro e w' ⟨rfl, rfl⟩
              have HG := Lib.hid (crcSum_any A0 (l.take (23 + n)) c0 w1 (HCut.out _ Hr.out) (by rw [HTk.out]; have := HC.out.2; unfold maxLen; omega))
              rw [HTk.out, HCe0.out] at HG
              go_wp2_with fail
              refine HG.out.mono ?_
              rintro e w2 ⟨rfl, hb⟩
              have H2 := Lib.hid ((hb.block _ (Array.getElem?_eq_some_iff.1 H2.out).1).trans H2.out)
              have Hr := Lib.hid (Hr.out.below hb)
              have HB := Lib.hid (HB.out.trans (hb.mono HB.out.size))
              clear y0 y1 y2 y3 y4 y5 y6 y7 y8 y9 y10 z0 z1 z2 z3 z4 z5 z6 z7 z8 z9 z10
              obtain ⟨y0, y1, y2, y3, y4, y5, y6, y7, y8, y9, y10⟩ := cells11 H2.out
              obtain ⟨z0, z1, z2, z3, z4, z5, z6, z7, z8, z9, z10⟩ := froz11 H2.out
              clear hb HG
              have HRd := Lib.hid (frRead_any w2 A0 c0 l Hr.out HC.out.2)
              rw [HX.out, HOk.out] at HRd
              unfold Fr.cells at HRd
              go_wp2_with fail
              refine HRd.out.mono ?_
              rintro e w3 ⟨A, c, rfl, hO⟩
              have HRow := Lib.hid (show SRow w3 A c x.l ∧ ∀ k, blk A = some k → w.heap.size < k from ⟨hO.1, fun k hk => Nat.lt_of_lt_of_le (Array.getElem?_eq_some_iff.1 H2.out).1 (hO.2.1 k hk)⟩)
              have hb := hO.2.2
              clear hO HRd
              have H2 := Lib.hid ((hb.block _ (Array.getElem?_eq_some_iff.1 H2.out).1).trans H2.out)
              have Hr := Lib.hid (Hr.out.below hb)
              have HB := Lib.hid (HB.out.trans (hb.mono HB.out.size))
              clear y0 y1 y2 y3 y4 y5 y6 y7 y8 y9 y10 z0 z1 z2 z3 z4 z5 z6 z7 z8 z9 z10
              obtain ⟨y0, y1, y2, y3, y4, y5, y6, y7, y8, y9, y10⟩ := cells11 H2.out
              obtain ⟨z0, z1, z2, z3, z4, z5, z6, z7, z8, z9, z10⟩ := froz11 H2.out
              clear hb
              have hb := (alloc1 w3 #[.int .i64 x.k, .int .u64 (x.s : Int), .int .u64 (x.e : Int), .int .u32 (x.q : Int), .int .u32 (x.v : Int), .int .i64 x.n, .int .i64 x.f, .int .i64 x.i, .int .i64 x.c, .string x.d, .slice A x.l.length c] 58).1
              have H2 := Lib.hid ((hb.block _ (Array.getElem?_eq_some_iff.1 H2.out).1).trans H2.out)
              have Hr := Lib.hid (Hr.out.below hb)
              have HB := Lib.hid (HB.out.trans (hb.mono HB.out.size))
              clear y0 y1 y2 y3 y4 y5 y6 y7 y8 y9 y10 z0 z1 z2 z3 z4 z5 z6 z7 z8 z9 z10
              obtain ⟨y0, y1, y2, y3, y4, y5, y6, y7, y8, y9, y10⟩ := cells11 H2.out
              obtain ⟨z0, z1, z2, z3, z4, z5, z6, z7, z8, z9, z10⟩ := froz11 H2.out
              have hg := (alloc1 w3 #[.int .i64 x.k, .int .u64 (x.s : Int), .int .u64 (x.e : Int), .int .u32 (x.q : Int), .int .u32 (x.v : Int), .int .i64 x.n, .int .i64 x.f, .int .i64 x.i, .int .i64 x.c, .string x.d, .slice A x.l.length c] 58).2.1
              obtain ⟨d0, d1, d2, d3, d4, d5, d6, d7, d8, d9, d10⟩ := cells11 hg
              have HG4 := Lib.hid hg
              have HRow := Lib.hid (And.intro (HRow.out.1.below hb) HRow.out.2)
              have HP := Lib.hid (framePut_any _ x A c HRow.out.1.reads HXok.out.2.body (by have := HXok.out.2.2.1; omega) HXok.out.1)
              unfold Fr.cells at HP
              rw [HPe.out] at HP
              clear hg hb
              go_wp2_with fail
              refine HP.out.mono ?_
              rintro e w5 ⟨A1, c1, rfl, hO⟩
              have hb := hO.2.2
              have HBy := Lib.hid hO.1
              have HG4 := Lib.hid ((hb.block _ (Array.getElem?_eq_some_iff.1 HG4.out).1).trans HG4.out)
              have HRow := Lib.hid (And.intro (HRow.out.1.below hb) HRow.out.2)
              clear HP d0 d1 d2 d3 d4 d5 d6 d7 d8 d9 d10
              have H2 := Lib.hid ((hb.block _ (Array.getElem?_eq_some_iff.1 H2.out).1).trans H2.out)
              have Hr := Lib.hid (Hr.out.below hb)
              have HB := Lib.hid (HB.out.trans (hb.mono HB.out.size))
              clear y0 y1 y2 y3 y4 y5 y6 y7 y8 y9 y10 z0 z1 z2 z3 z4 z5 z6 z7 z8 z9 z10
              obtain ⟨y0, y1, y2, y3, y4, y5, y6, y7, y8, y9, y10⟩ := cells11 H2.out
              obtain ⟨z0, z1, z2, z3, z4, z5, z6, z7, z8, z9, z10⟩ := froz11 H2.out
              clear hO hb
              obtain ⟨d0, d1, d2, d3, d4, d5, d6, d7, d8, d9, d10⟩ := cells11 HG4.out
              generalize w3.heap.size = bf at HG4 d0 d1 d2 d3 d4 d5 d6 d7 d8 d9 d10 ⊢
              go_wp2_with fail
              obtain ⟨u1, u2⟩ := set11 H2.out (mk11 _ _ _ _ _ _ _ _ _ _ _) (.int .i64 0) (.int .u64 0) (.int .u64 0) (.int .u32 0) (.int .u32 0) (.int .i64 0) (.int .i64 0) (.int .i64 0) (.int .i64 0) (.string ⟨#[]⟩) (.slice none 0 0)
              refine bodyPost_ret (results_cell_tmp_row rfl _ _ w.heap.size _ _ _ _ rfl u1 Try.underlying58 rfl (by kernel_rfl)) rfl ?_
              exact get_zero HE.out (by decide) (by rfl) (HB.out.trans (u2.below (fun i hi e => by omega) HB.out.size))
        · have hne : ((S : Int) != (C : Int)) = true := by rw [bne_iff_ne]; omega
          have HE := Lib.hid (getE_4 HH1.out (by rw [HN.out]; exact HLn.out) (by rw [HSe.out, HCe.out]; exact h4))
          clear h4
          go_enter Try.func20, Try.ntmps20
          go_wp2_with fail
          refine HG.out.mono ?_
          rintro e w1 ⟨rfl, hw⟩
          rw [hw] at H2 HB Hr y0 y1 y2 y3 y4 y5 y6 y7 y8 y9 y10 z0 z1 z2 z3 z4 z5 z6 z7 z8 z9 z10
          clear hw HG
          go_wp2_with fail
          have HG := Lib.hid (get_any A0 l c0 (23 + (n : Int)) 4 _ Hr.out HC.out.1 (by have := HC.out.2; unfold maxLen; omega))
          rw [HE4.out, HSe0.out] at HG
          refine HG.out.mono ?_
          rintro e w' ⟨rfl, rfl⟩
          have HG := Lib.hid (crcSum_any A0 (l.take (23 + n)) c0 w1 (HCut.out _ Hr.out) (by rw [HTk.out]; have := HC.out.2; unfold maxLen; omega))
          rw [HTk.out, HCe0.out] at HG
          go_wp2_with fail
          refine HG.out.mono ?_
          rintro e w2 ⟨rfl, hb⟩
          have H2 := Lib.hid ((hb.block _ (Array.getElem?_eq_some_iff.1 H2.out).1).trans H2.out)
          have Hr := Lib.hid (Hr.out.below hb)
          have HB := Lib.hid (HB.out.trans (hb.mono HB.out.size))
          clear y0 y1 y2 y3 y4 y5 y6 y7 y8 y9 y10 z0 z1 z2 z3 z4 z5 z6 z7 z8 z9 z10
          obtain ⟨y0, y1, y2, y3, y4, y5, y6, y7, y8, y9, y10⟩ := cells11 H2.out
          obtain ⟨z0, z1, z2, z3, z4, z5, z6, z7, z8, z9, z10⟩ := froz11 H2.out
          clear hb HG
          go_wp2_with fail
          obtain ⟨u1, u2⟩ := set11 H2.out (mk11 _ _ _ _ _ _ _ _ _ _ _) (.int .i64 0) (.int .u64 0) (.int .u64 0) (.int .u32 0) (.int .u32 0) (.int .i64 0) (.int .i64 0) (.int .i64 0) (.int .i64 0) (.string ⟨#[]⟩) (.slice none 0 0)
          refine bodyPost_ret (results_cell_tmp_row rfl _ _ w.heap.size _ _ _ _ rfl u1 Try.underlying58 rfl (by kernel_rfl)) rfl ?_
          exact get_zero HE.out (by decide) (by rfl) (HB.out.trans (u2.below (fun i hi e => by omega) HB.out.size))
end Go.Proofs.Ytebcginnnjigjaa

end
section
/- The plain law of frames: what is told as bytes is read back; bytes that are others are none. -/
open Go.RowKit
namespace Go.Proofs.Ytebcginnnjigjaa

theorem be_beNum (k : Nat) : ∀ l : List UInt8, l.length = k → be k (beNum l) = l := by
  induction k with
  | zero => intro l h; rw [be_zero, List.eq_nil_of_length_eq_zero h]
  | succ k ih =>
    intro l h
    cases l with
    | nil => simp at h
    | cons c l =>
      have hl : l.length = k := by simpa using h
      have hlt := beNum_lt l
      rw [hl] at hlt
      rw [be_succ, beNum_cons, hl]
      have hpos : 0 < 256 ^ k := Nat.pow_pos (by decide)
      have h1 : (c.toNat * 256 ^ k + beNum l) / 256 ^ k = c.toNat := by
        rw [Nat.mul_comm, Nat.mul_add_div hpos, Nat.div_eq_of_lt hlt, Nat.add_zero]
      have h2 : c.toNat % 256 = c.toNat := Nat.mod_eq_of_lt c.toNat_lt
      rw [h1, h2, UInt8.ofNat_toNat]
      congr 1
      have h3 : ∀ j (n m : Nat), j ≤ k → be j (n * 256 ^ k + m) = be j m := by
        intro j
        induction j with
        | zero => intro n m _; rw [be_zero, be_zero]
        | succ j ihj =>
          intro n m hj
          rw [be_succ, be_succ, ihj n m (by omega)]
          congr 2
          obtain ⟨d, rfl⟩ : ∃ d, k = j + (d + 1) := ⟨k - j - 1, by omega⟩
          have e : n * 256 ^ (j + (d + 1)) = 256 ^ j * (n * 256 ^ (d + 1)) := by rw [Nat.pow_add]; rw [Nat.mul_left_comm]
          rw [e, Nat.mul_add_div (Nat.pow_pos (by decide)), Nat.pow_succ, ← Nat.mul_assoc, Nat.add_comm, Nat.add_mul_mod_self_right]
      rw [h3 k c.toNat (beNum l) (Nat.le_refl _)]
      exact ih l hl

/-! ### one step of a reader -/
theorem nN_put (k v : Nat) (r : List UInt8) (h1 : 1 ≤ k) (h2 : k ≤ 8) : nN (be k v ++ r, 0) k = v % 256 ^ k := by
  unfold nN rNum
  dsimp only
  rw [if_pos rfl, gNum_ok (gErr_ok (by omega) (by rw [List.length_append, be_length]; omega)), Int.toNat_natCast]
  rw [show Int.toNat 0 = 0 from rfl, List.drop_zero, List.take_left' (be_length k v), beNum_be]
theorem nS_put (k v : Nat) (r : List UInt8) (h1 : 1 ≤ k) (h2 : k ≤ 8) : nS (be k v ++ r, 0) k = (r, 0) := by
  have h : gErr (be k v ++ r).length 0 (k : Int) = 0 := gErr_ok (by omega) (by rw [List.length_append, be_length]; omega)
  unfold nS rNumL rNumE
  dsimp only
  rw [if_pos ⟨rfl, h⟩, if_pos rfl, h, Int.toNat_natCast, List.drop_left' (be_length k v)]
theorem tN_put (d : ByteArray) (r : List UInt8) (k : Nat) (hk : d.size = k) : tN (bl d ++ r, 0) k = d := by
  subst hk
  unfold tN
  dsimp only
  rw [(rBytes_ok (l := bl d ++ r) (x := d.size) (by rw [List.length_append, bl_length]; omega)).1, List.take_left' (bl_length d), mk_bl]
theorem tS_put (d : ByteArray) (r : List UInt8) (k : Nat) (hk : d.size = k) : tS (bl d ++ r, 0) k = (r, 0) := by
  subst hk
  obtain ⟨_, h2, h3⟩ := rBytes_ok (l := bl d ++ r) (x := d.size) (by rw [List.length_append, bl_length]; omega)
  unfold tS
  dsimp only
  rw [h2, h3, List.drop_left' (bl_length d)]
theorem tList_put (L : List ByteArray) (r : List UInt8) (hL : ∀ x ∈ L, x.size = 32) : ∀ j, j ≤ L.length → tList (L.flatMap bl ++ r, 0) j = (L.take j, ((L.drop j).flatMap bl ++ r, 0)) := by
  intro j
  induction j with
  | zero => intro _; rw [tList_zero, List.take_zero, List.drop_zero]
  | succ j ih =>
    intro hj
    rw [tList_succ, ih (by omega)]
    have hlt : j < L.length := by omega
    rw [List.drop_eq_getElem_cons hlt, List.flatMap_cons, List.append_assoc]
    dsimp only
    rw [tN_put _ _ 32 (hL _ (List.getElem_mem hlt)), tS_put _ _ 32 (hL _ (List.getElem_mem hlt)), List.take_succ_eq_append_getElem hlt]

/-! ### a frame -/
theorem numBad_no {k : Nat} {n : Int} (h : numBad k n = false) : 0 ≤ n ∧ n < (256 ^ k : Nat) := by
  unfold numBad at h
  rw [Bool.or_eq_false_iff, decide_eq_false_iff_not, decide_eq_false_iff_not] at h
  omega
theorem u64n_of {n : Int} (h0 : 0 ≤ n) (h : n < 18446744073709551616) : (u64n n : Int) = n := by unfold u64n; omega
theorem u64n_nat {n : Nat} (h : n < 18446744073709551616) : u64n (n : Int) = n := by unfold u64n; omega
theorem nN_u (k : Nat) (n : Int) (r : List UInt8) (h1 : 1 ≤ k) (h2 : k ≤ 2) (h : numBad k n = false) : ((nN (be k (u64n n) ++ r, 0) k : Nat) : Int) = n := by
  obtain ⟨h3, h4⟩ := numBad_no h
  have h5 : n < 65536 := by
    rcases (by omega : k = 1 ∨ k = 2) with rfl | rfl
    · exact Int.lt_trans h4 (by decide)
    · exact h4
  rw [nN_put k _ r h1 (by omega), Nat.mod_eq_of_lt, u64n_of h3 (by omega)]
  have h6 := u64n_of h3 (by omega)
  omega
/-- The kinds there are. -/
theorem kinds_of {x : Fr} (h : bodyW x = false) : x.k = 1 ∨ x.k = 2 ∨ x.k = 3 ∨ x.k = 4 ∨ x.k = 5 ∨ x.k = 6 ∨ x.k = 7 := by
  unfold bodyW at h
  by_cases h1 : x.k = 1
  · omega
  by_cases h2 : x.k = 2
  · omega
  by_cases h35 : x.k = 3 ∨ x.k = 5
  · omega
  by_cases h4 : x.k = 4
  · omega
  by_cases h6 : x.k = 6
  · omega
  rw [if_neg h1, if_neg h2, if_neg h35, if_neg h4, if_neg h6] at h
  have := of_decide_eq_false h
  omega
theorem put_parts {x : Fr} (h : putOk x = true) : bodyW x = false ∧ x = told x := by
  unfold putOk at h
  rw [Bool.and_eq_true, Bool.not_eq_true', alikeB_iff] at h
  exact h
theorem head_read (x : Fr) (hok : FrOk x) (hk : 0 ≤ x.k ∧ x.k < 256) (r : List UInt8) : rdF (headL x ++ r) = ⟨x.k, x.s, x.e, x.q, 0, 0, 0, 0, 0, ⟨#[]⟩, []⟩ ∧ rdS (headL x ++ r) = (r, 0) ∧ nN (nS (nS (nS (nS (headL x ++ r, 0) 1) 8) 8) 4) 2 = u64n (bodyL x).length % 65536 := by
  have e : headL x ++ r = be 1 (u64n x.k) ++ (be 8 x.s ++ (be 8 x.e ++ (be 4 x.q ++ (be 2 (u64n (bodyL x).length) ++ r)))) := by unfold headL; simp only [List.append_assoc]
  rw [e]
  unfold rdF rdS
  have ek : ((nN (be 1 (u64n x.k) ++ (be 8 x.s ++ (be 8 x.e ++ (be 4 x.q ++ (be 2 (u64n (bodyL x).length) ++ r)))), 0) 1 : Nat) : Int) = x.k :=
    nN_u 1 x.k _ (by decide) (by decide) (by unfold numBad; rw [decide_eq_false (by omega), decide_eq_false (by show ¬ ((256 : Int) ≤ _); omega)]; rfl)
  rw [ek, nS_put 1 _ _ (by decide) (by decide), nN_put 8 _ _ (by decide) (by decide), nS_put 8 _ _ (by decide) (by decide), nN_put 8 _ _ (by decide) (by decide), nS_put 8 _ _ (by decide) (by decide),
    nN_put 4 _ _ (by decide) (by decide), nS_put 4 _ _ (by decide) (by decide), nN_put 2 _ _ (by decide) (by decide), nS_put 2 _ _ (by decide) (by decide)]
  rw [Nat.mod_eq_of_lt (show x.s < 256 ^ 8 from hok.1), Nat.mod_eq_of_lt (show x.e < 256 ^ 8 from hok.2.1), Nat.mod_eq_of_lt (show x.q < 256 ^ 4 from hok.2.2.1)]
  exact ⟨rfl, rfl, rfl⟩
theorem ok_end (c : Nat) : okS (be 4 c, 0) = true := by
  unfold okS rLeft
  dsimp only
  rw [if_pos rfl, be_length]
  rfl
theorem body_read (x : Fr) (hok : FrOk x) (h : putOk x = true) (c : Nat) : readB ⟨x.k, x.s, x.e, x.q, 0, 0, 0, 0, 0, ⟨#[]⟩, []⟩ (bodyL x ++ be 4 c, 0) = (x, (be 4 c, 0)) := by
  obtain ⟨hw, ht⟩ := put_parts h
  have hkk := kinds_of hw
  obtain ⟨k, s, e, q, v, n, f, i, cd, d, l⟩ := x
  simp only at hkk ⊢
  rcases hkk with rfl | rfl | rfl | rfl | rfl | rfl | rfl
  · rw [readB_1 (by decide) (by decide)]
    unfold bodyW at hw
    simp only [if_true, Bool.or_eq_false_iff, Bool.not_eq_false'] at hw
    obtain ⟨⟨h1, h2⟩, h3⟩ := hw
    have hd : d.size = 32 := of_decide_eq_true h3
    have hb : bodyL ⟨1, s, e, q, v, n, f, i, cd, d, l⟩ ++ be 4 c = be 4 v ++ (be 2 (u64n n) ++ (be 1 (u64n f) ++ (bl d ++ be 4 c))) := by unfold bodyL; simp only [if_true, List.append_assoc]
    rw [hb, nS_put 4 _ _ (by decide) (by decide), nN_put 4 _ _ (by decide) (by decide), nN_u 2 _ _ (by decide) (by decide) h1, nS_put 2 _ _ (by decide) (by decide), nN_u 1 _ _ (by decide) (by decide) h2, nS_put 1 _ _ (by decide) (by decide), tN_put _ _ 32 hd, tS_put _ _ 32 hd]
    rw [Nat.mod_eq_of_lt (show v < 256 ^ 4 from hok.2.2.2)]
    have e2 : (⟨1, s, e, q, v, n, f, i, cd, d, l⟩ : Fr) = ⟨1, s, e, q, v, n, f, 0, 0, d, []⟩ := ht
    rw [e2]
  · rw [readB_2 (by decide) (by decide) (by decide)]
    unfold bodyW at hw
    have hw' : numBad 1 cd = false := hw
    have hb : bodyL ⟨2, s, e, q, v, n, f, i, cd, d, l⟩ ++ be 4 c = be 1 (u64n cd) ++ be 4 c := rfl
    rw [hb, nN_u 1 _ _ (by decide) (by decide) hw', nS_put 1 _ _ (by decide) (by decide)]
    have e2 : (⟨2, s, e, q, v, n, f, i, cd, d, l⟩ : Fr) = ⟨2, s, e, q, 0, 0, 0, 0, cd, ⟨#[]⟩, []⟩ := ht
    rw [e2]
  · rw [readB_x (by decide) (by decide) (by decide) (by decide) (by decide)]
    have hw' : numBad 2 i = false := hw
    have hb : bodyL ⟨3, s, e, q, v, n, f, i, cd, d, l⟩ ++ be 4 c = be 2 (u64n i) ++ be 4 c := rfl
    rw [hb, nN_u 2 _ _ (by decide) (by decide) hw', nS_put 2 _ _ (by decide) (by decide)]
    have e2 : (⟨3, s, e, q, v, n, f, i, cd, d, l⟩ : Fr) = ⟨3, s, e, q, 0, 0, 0, i, 0, ⟨#[]⟩, []⟩ := ht
    rw [e2]
  · rw [readB_4 (by decide) (by decide) (by decide) (by decide)]
    have hw' : (numBad 2 i || numBad 1 l.length || decide (4 < l.length) || l.any (fun s => !rightD s)) = false := hw
    simp only [Bool.or_eq_false_iff] at hw'
    obtain ⟨⟨⟨h1, h2⟩, h3⟩, h4⟩ := hw'
    have hL : ∀ t ∈ l, t.size = 32 := fun t ht => by
      have h5 := List.any_eq_false.1 h4 t ht
      have h6 : rightD t = true := by simpa using h5
      exact of_decide_eq_true h6
    have hb : bodyL ⟨4, s, e, q, v, n, f, i, cd, d, l⟩ ++ be 4 c = be 2 (u64n i) ++ (be 1 (u64n l.length) ++ (l.flatMap bl ++ be 4 c)) := by
      show (be 2 (u64n i) ++ be 1 (u64n l.length) ++ l.flatMap bl) ++ be 4 c = _
      simp only [List.append_assoc]
    rw [hb, nN_u 2 _ _ (by decide) (by decide) h1, nS_put 2 _ _ (by decide) (by decide), nS_put 1 _ _ (by decide) (by decide)]
    have hn : nN (be 1 (u64n l.length) ++ (l.flatMap bl ++ be 4 c), 0) 1 = l.length := by
      have := nN_u 1 (l.length : Int) (l.flatMap bl ++ be 4 c) (by decide) (by decide) h2
      omega
    rw [hn, tList_put l _ hL l.length (Nat.le_refl _), List.take_length, List.drop_length]
    have e2 : (⟨4, s, e, q, v, n, f, i, cd, d, l⟩ : Fr) = ⟨4, s, e, q, 0, 0, 0, i, 0, ⟨#[]⟩, l⟩ := ht
    rw [e2]
    rfl
  · rw [readB_x (by decide) (by decide) (by decide) (by decide) (by decide)]
    have hw' : numBad 2 i = false := hw
    have hb : bodyL ⟨5, s, e, q, v, n, f, i, cd, d, l⟩ ++ be 4 c = be 2 (u64n i) ++ be 4 c := rfl
    rw [hb, nN_u 2 _ _ (by decide) (by decide) hw', nS_put 2 _ _ (by decide) (by decide)]
    have e2 : (⟨5, s, e, q, v, n, f, i, cd, d, l⟩ : Fr) = ⟨5, s, e, q, 0, 0, 0, i, 0, ⟨#[]⟩, []⟩ := ht
    rw [e2]
  · rw [readB_6 (by decide) (by decide) (by decide) (by decide) (by decide)]
    have hw' : (numBad 2 i || !rightS d) = false := hw
    simp only [Bool.or_eq_false_iff, Bool.not_eq_false'] at hw'
    have hd : d.size = 64 := of_decide_eq_true hw'.2
    have hb : bodyL ⟨6, s, e, q, v, n, f, i, cd, d, l⟩ ++ be 4 c = be 2 (u64n i) ++ (bl d ++ be 4 c) := by
      show (be 2 (u64n i) ++ bl d) ++ be 4 c = _
      simp only [List.append_assoc]
    rw [hb, nN_u 2 _ _ (by decide) (by decide) hw'.1, nS_put 2 _ _ (by decide) (by decide), tN_put _ _ 64 hd, tS_put _ _ 64 hd]
    have e2 : (⟨6, s, e, q, v, n, f, i, cd, d, l⟩ : Fr) = ⟨6, s, e, q, 0, 0, 0, i, 0, d, []⟩ := ht
    rw [e2]
  · rw [readB_7 (by decide)]
    have e2 : (⟨7, s, e, q, v, n, f, i, cd, d, l⟩ : Fr) = ⟨7, s, e, q, 0, 0, 0, 0, 0, ⟨#[]⟩, []⟩ := ht
    rw [e2]
    rfl
theorem putL_ok {x : Fr} (h : putOk x = true) : putL x = headL x ++ (bodyL x ++ be 4 (crcAdd 0 (headL x ++ bodyL x))) := by unfold putL; rw [if_pos h, List.append_assoc]
theorem read_put {x : Fr} (hok : FrOk x) (h : putOk x = true) : ∃ t, readF (putL x) = (x, t) ∧ okS t = true := by
  have hk := kinds_of (put_parts h).1
  rw [putL_ok h]
  obtain ⟨h1, h2, _⟩ := head_read x hok ⟨by omega, by omega⟩ (bodyL x ++ be 4 (crcAdd 0 (headL x ++ bodyL x)))
  refine ⟨_, ?_, ok_end (crcAdd 0 (headL x ++ bodyL x))⟩
  unfold readF
  rw [h1, h2, body_read x hok h]
theorem bodyL_le {x : Fr} (h : bodyW x = false) : (bodyL x).length ≤ 200 := by
  have hk := kinds_of h
  obtain ⟨k, s, e, q, v, n, f, i, cd, d, l⟩ := x
  simp only at hk
  rcases hk with rfl | rfl | rfl | rfl | rfl | rfl | rfl
  · have hw' : (numBad 2 n || numBad 1 f || !rightD d) = false := h
    simp only [Bool.or_eq_false_iff, Bool.not_eq_false'] at hw'
    have hd : d.size = 32 := of_decide_eq_true hw'.2
    show (be 4 v ++ be 2 (u64n n) ++ be 1 (u64n f) ++ bl d).length ≤ 200
    simp only [List.length_append, be_length, bl_length]; omega
  · show (be 1 (u64n cd)).length ≤ 200
    rw [be_length]; omega
  · show (be 2 (u64n i)).length ≤ 200
    rw [be_length]; omega
  · have hw' : (numBad 2 i || numBad 1 l.length || decide (4 < l.length) || l.any (fun s => !rightD s)) = false := h
    simp only [Bool.or_eq_false_iff] at hw'
    obtain ⟨⟨⟨h1, h2⟩, h3⟩, h4⟩ := hw'
    have h3 := of_decide_eq_false h3
    have hL : ∀ t ∈ l, t.size ≤ 32 := fun t ht => by
      have h5 := List.any_eq_false.1 h4 t ht
      have h6 : rightD t = true := by simpa using h5
      exact Nat.le_of_eq (of_decide_eq_true h6)
    have := flat_size l hL
    show (be 2 (u64n i) ++ be 1 (u64n l.length) ++ l.flatMap bl).length ≤ 200
    simp only [List.length_append, be_length]; omega
  · show (be 2 (u64n i)).length ≤ 200
    rw [be_length]; omega
  · have hw' : (numBad 2 i || !rightS d) = false := h
    simp only [Bool.or_eq_false_iff, Bool.not_eq_false'] at hw'
    have hd : d.size = 64 := of_decide_eq_true hw'.2
    show (be 2 (u64n i) ++ bl d).length ≤ 200
    simp only [List.length_append, be_length, bl_length]; omega
  · show ([] : List UInt8).length ≤ 200
    simp
theorem headL_length (x : Fr) : (headL x).length = 23 := by unfold headL; simp only [List.length_append, be_length]
theorem gLen_eq {l : List UInt8} (h : 23 ≤ l.length) : gLen l = nN (nS (nS (nS (nS (l, 0) 1) 8) 8) 4) 2 := by
  have step : ∀ (k : Nat) (r : List UInt8), 1 ≤ k → k ≤ 8 → k ≤ r.length → nS (r, 0) k = (r.drop k, 0) := fun k r h1 h2 h3 => by
    have h : gErr r.length 0 (k : Int) = 0 := gErr_ok (by omega) (by omega)
    unfold nS rNumL rNumE
    dsimp only
    rw [if_pos ⟨rfl, h⟩, if_pos rfl, h, Int.toNat_natCast]
  rw [step 1 l (by decide) (by decide) (by omega), step 8 _ (by decide) (by decide) (by rw [List.length_drop]; omega), step 8 _ (by decide) (by decide) (by simp only [List.length_drop]; omega), step 4 _ (by decide) (by decide) (by simp only [List.length_drop]; omega)]
  simp only [List.drop_drop]
  unfold nN rNum gLen
  dsimp only
  rw [if_pos rfl, gNum_ok (gErr_ok (by omega) (by omega)), gNum_ok (gErr_ok (by omega) (by rw [List.length_drop]; omega))]
  rfl
theorem putL_length {x : Fr} (h : putOk x = true) : (putL x).length = 27 + (bodyL x).length := by
  rw [putL_ok h]
  simp only [List.length_append, headL_length, be_length]; omega
theorem gLen_put {x : Fr} (hok : FrOk x) (h : putOk x = true) : gLen (putL x) = (bodyL x).length := by
  have hk := kinds_of (put_parts h).1
  have hb := bodyL_le (put_parts h).1
  rw [gLen_eq (by rw [putL_length h]; omega), putL_ok h, (head_read x hok ⟨by omega, by omega⟩ _).2.2, u64n_nat (by omega), Nat.mod_eq_of_lt (by omega)]
theorem sum_put {x : Fr} (h : putOk x = true) : gNum (putL x) (23 + (bodyL x).length : Nat) 4 = crcAdd 0 ((putL x).take (23 + (bodyL x).length)) := by
  have hl := putL_length h
  have e : putL x = (headL x ++ bodyL x) ++ be 4 (crcAdd 0 (headL x ++ bodyL x)) := by rw [putL_ok h, List.append_assoc]
  have hn : (headL x ++ bodyL x).length = 23 + (bodyL x).length := by rw [List.length_append, headL_length]
  rw [gNum_ok (gErr_ok (by omega) (by rw [hl]; omega)), e, Int.toNat_natCast, List.drop_left' hn, List.take_left' hn, List.take_of_length_le (by rw [be_length]; decide), beNum_be]
  exact Nat.mod_eq_of_lt (crcAdd_lt _ _)
theorem get_put {x : Fr} (hok : FrOk x) (h : putOk x = true) : getE (putL x) = 0 ∧ getX (putL x) = x := by
  have hl := putL_length h
  have hg := gLen_put hok h
  obtain ⟨t, ht, hs⟩ := read_put hok h
  have he : getE (putL x) = 0 := by
    refine getE_7 (by omega) (by rw [hg, hl]) (by rw [hg]; exact sum_put h) (by rw [ht]; exact hs) ?_
    rw [ht]
    unfold putE
    rw [if_pos h]
    simp
  exact ⟨he, by rw [getX_ok he, ht]⟩
/-- The reference's word for it: no question whether the reader came to its end. -/
theorem getE_ref {l : List UInt8} (h1 : ¬ l.length < 27) (h3 : l.length = 27 + gLen l) (h4 : gNum l (23 + gLen l : Nat) 4 = crcAdd 0 (l.take (23 + gLen l))) :
    getE l = if putE (readF l).1 ≠ 0 ∨ l ≠ putL (readF l).1 then 6 else 0 := by
  by_cases h6 : putE (readF l).1 ≠ 0 ∨ l ≠ putL (readF l).1
  · rw [if_pos h6]
    cases h5 : okS (readF l).2 with
    | true => exact getE_6 h1 h3 h4 h5 h6
    | false => exact getE_5 h1 h3 h4 h5
  · rw [if_neg h6]
    have h7 : putE (readF l).1 = 0 ∧ l = putL (readF l).1 := ⟨Decidable.byContradiction fun h => h6 (.inl h), Decidable.byContradiction fun h => h6 (.inr h)⟩
    have hp : putOk (readF l).1 = true := by
      have h := h7.1
      unfold putE at h
      split at h
      · assumption
      · cases h
    obtain ⟨t, ht, hs⟩ := read_put (readF_ok l).1 hp
    rw [← h7.2] at ht
    exact getE_7 h1 h3 h4 (by rw [ht]; exact hs) h6
/-- What is got is told so. -/
theorem put_get {l : List UInt8} (h : getE l = 0) : putE (getX l) = 0 ∧ putL (getX l) = l := by
  rw [getX_ok h]
  by_cases h1 : l.length < 27
  · rw [getE_1 h1] at h; cases h
  by_cases h2 : l.length < 27 + gLen l
  · rw [getE_2 h1 h2] at h; cases h
  by_cases h3 : 27 + gLen l < l.length
  · rw [getE_3 h1 h3] at h; cases h
  by_cases h4 : gNum l (23 + gLen l : Nat) 4 = crcAdd 0 (l.take (23 + gLen l))
  · rw [getE_ref h1 (by omega) h4] at h
    split at h
    · cases h
    · rename_i h6
      exact ⟨Decidable.byContradiction fun h => h6 (.inl h), (Decidable.byContradiction fun h => h6 (.inr h)).symm⟩
  · rw [getE_4 h1 (by omega) h4] at h; cases h
/-- Cut short. -/
theorem get_cut {x : Fr} (hok : FrOk x) (h : putOk x = true) {n : Nat} (hn : n < (putL x).length) : getE ((putL x).take n) = 7 := by
  have hl := putL_length h
  have ht : ((putL x).take n).length = n := by rw [List.length_take]; omega
  by_cases h1 : n < 27
  · exact getE_1 (by omega)
  · have hg : gLen ((putL x).take n) = gLen (putL x) := by
      unfold gLen
      rw [gNum_ok (gErr_ok (by omega) (by omega)), gNum_ok (gErr_ok (by omega) (by omega)), List.drop_take]
      show beNum (((putL x).drop 21).take (n - 21) |>.take 2) = beNum (((putL x).drop 21).take 2)
      rw [List.take_take, Nat.min_eq_left (by omega)]
    rw [gLen_put hok h] at hg
    exact getE_2 (by omega) (by omega)
/-- One byte another one. -/
theorem get_set {x : Fr} (hok : FrOk x) (h : putOk x = true) {k : Nat} (hk : k < (putL x).length) (b : UInt8) (hb : (putL x)[k] ≠ b) : getE ((putL x).set k b) ≠ 0 := by
  intro he
  have hl := putL_length h
  have hg := gLen_put hok h
  obtain ⟨h1, h2⟩ := put_get he
  have hp : putOk (getX ((putL x).set k b)) = true := by
    unfold putE at h1
    split at h1
    · assumption
    · cases h1
  have hok2 : FrOk (getX ((putL x).set k b)) := by rw [getX_ok he]; exact (readF_ok _).1
  have hl2 := putL_length hp
  have e2 : (putL (getX ((putL x).set k b))).length = (putL x).length := by rw [h2, List.length_set]
  have hn : (bodyL (getX ((putL x).set k b))).length = (bodyL x).length := by omega
  have s1 := sum_put h
  have s2 := sum_put hp
  rw [hn, h2] at s2
  generalize hN : 23 + (bodyL x).length = N at s1 s2
  have hlN : (putL x).length = N + 4 := by omega
  have hi : (N : Int).toNat = N := Int.toNat_natCast N
  rw [gNum_ok (gErr_ok (by omega) (by omega)), hi] at s1
  rw [gNum_ok (gErr_ok (by omega) (by rw [List.length_set]; omega)), hi] at s2
  by_cases hkN : k < N
  · have e3 : ((putL x).set k b).drop N = (putL x).drop N := by rw [List.drop_set_of_lt hkN]
    rw [e3, s1] at s2
    have e4 : ((putL x).set k b).take N = ((putL x).take N).set k b := by rw [List.take_set]
    rw [e4] at s2
    refine crc_set_ne ((putL x).take N) k (by rw [List.length_take]; omega) b (by rw [List.getElem_take]; exact hb) 0 s2.symm
  · have e3 : ((putL x).set k b).take N = (putL x).take N := by rw [List.take_set, List.set_eq_of_length_le (by rw [List.length_take]; omega)]
    rw [e3, ← s1] at s2
    have l1 : (((putL x).drop N).take (Int.toNat 4)).length = 4 := by rw [List.length_take, List.length_drop, hlN]; show min 4 _ = 4; omega
    have l2 : ((((putL x).set k b).drop N).take (Int.toNat 4)).length = 4 := by rw [List.length_take, List.length_drop, List.length_set, hlN]; show min 4 _ = 4; omega
    have e4 := congrArg (be 4) s2
    rw [be_beNum 4 _ l1, be_beNum 4 _ l2] at e4
    have e5 := congrArg (fun l => l[k - N]?) e4
    simp only [List.getElem?_take, List.getElem?_drop, List.getElem?_set] at e5
    have h4 : k - N < Int.toNat 4 := by show k - N < 4; omega
    have e6 : N + (k - N) = k := by omega
    rw [e6] at e5
    simp only [if_pos h4, if_true, hk, List.getElem?_eq_getElem] at e5
    exact hb (Option.some.inj e5).symm
end Go.Proofs.Ytebcginnnjigjaa

end
