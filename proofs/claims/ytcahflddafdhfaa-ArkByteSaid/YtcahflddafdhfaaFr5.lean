/- Frames as bytes. -/
import Derived.Test.YtcahflddafdhfaaFr4
import Derived.Test.YtcahflddafdhfaaCrc
open Go.RowKit
namespace Go.Proofs.Ytcahflddafdhfaa

def headL (x : Fr) : List UInt8 := be 1 (u64n x.k) ++ be 8 x.s ++ be 8 x.e ++ be 4 x.q ++ be 2 (u64n (bodyL x).length)
def putOk (x : Fr) : Bool := !bodyW x && alikeB x (told x)
def putE (x : Fr) : Nat := if putOk x = true then 0 else 6
def putL (x : Fr) : List UInt8 := if putOk x = true then headL x ++ bodyL x ++ be 4 (crcAdd 0 (headL x ++ bodyL x)) else []
/-- A fresh row of bytes that a function returns. -/
def ByteOut (w w' : World) (A : Option Addr) (c : Nat) (l : List UInt8) : Prop := BRow w' A c l ∧ (∀ k, blk A = some k → w.heap.size ≤ k) ∧ Below w.heap.size w w'
theorem ByteOut.nil {w w' : World} (hb : Below w.heap.size w w') : ByteOut w w' none 0 [] := ⟨BRow.nil _, by simp [blk], hb⟩
theorem ByteOut.keep {w w' w2 : World} {A : Option Addr} {c : Nat} {l : List UInt8} (h : ByteOut w w' A c l) (hb : Below w'.heap.size w' w2) : ByteOut w w2 A c l := ⟨h.1.below hb, h.2.1, h.2.2.trans (hb.mono h.2.2.size)⟩
theorem ByteOut.next {w w' w2 : World} {A : Option Addr} {c : Nat} {l : List UInt8} (hb : Below w.heap.size w w') (ho : OwnB w2 w'.heap.size A c l) (hb2 : Below w'.heap.size w' w2) : ByteOut w w2 A c l := by
  obtain ⟨hr, hge⟩ := BRow.of_own ho
  exact ⟨hr, fun k hk => Nat.le_trans hb.size (hge k hk), hb.trans (hb2.mono hb.size)⟩
theorem told_l (x : Fr) : (told x).l = if x.k = 4 then x.l else [] := by
  unfold told
  by_cases k1 : x.k = 1
  · rw [if_pos k1, if_neg (by omega)]
  · rw [if_neg k1]
    by_cases k2 : x.k = 2
    · rw [if_pos k2, if_neg (by omega)]
    · rw [if_neg k2]
      by_cases k3 : x.k = 3 ∨ x.k = 5
      · rw [if_pos k3, if_neg (by omega)]
      · rw [if_neg k3]
        by_cases k4 : x.k = 4
        · rw [if_pos k4, if_pos k4]
        · rw [if_neg k4, if_neg k4]
          by_cases k6 : x.k = 6
          · rw [if_pos k6]
          · rw [if_neg k6]
theorem told_reads {w : World} {x : Fr} {A : Option Addr} (h : Reads w 1 A x.l.length (sts x.l)) : Reads w 1 (tA x A) (told x).l.length (sts (told x).l) := by
  rw [told_l]
  unfold tA
  by_cases k4 : x.k = 4
  · rw [if_pos k4, if_pos k4]; exact h
  · rw [if_neg k4, if_neg k4]; exact Reads.nil _ _ _

theorem append_bbn {w : World} {ops : Array Oper} {rest : List Oper} {o : Oper} {a : Act} {Q : Exit → Act → World → Prop} (hgd : o.guard = none) (s x : Operand)
    (ho : o.op = .call { callee := .builtin .append, args := #[s, x], argTypes := #[25, 25] })
    (A : Option Addr) (c : Nat) (l : List UInt8) (hs : a.eval s = .slice A l.length c) (hrow : BRow w A c l) (A' : Option Addr) (c' : Nat) (m : List UInt8) (hx : a.eval x = .slice A' m.length c') (hr : Reads w 1 A' m.length (bv m)) (hlen : l.length + m.length ≤ 140737488355328)
    (n : List UInt8) (hn : n = l ++ m)
    (h : ∀ A1 c1 w1, BRow w1 A1 c1 n → Chg (fun i => blk A = some i) w w1 → (∀ k, blk A1 = some k → blk A = some k ∨ k = w.heap.size) → wpList Try.prog ops Q rest (a.put o.dst (.slice A1 n.length c1)) w1) : wpList Try.prog ops Q (o :: rest) a w := by
  subst hn
  exact wpList_append_bb hgd s x ho A c l hs hrow A' c' m hx hr hlen h
/-- In the midst of a frame's bytes: the frame's block and the writer. -/
structure PS (w : World) (x : Fr) (A : Option Addr) (c : Nat) (A3 : Option Addr) (c3 : Nat) (w' : World) : Prop where
  b : Below w.heap.size w w'
  g0 : w'.heap[w.heap.size]? = some (.cells (x.cells A c) 41 (0, 0))
  wr : IsW w' (w.heap.size + 1) A3 c3 (bodyL x) (bodyW x)
theorem PS.below {w w1 w2 : World} {x : Fr} {A : Option Addr} {c : Nat} {A3 : Option Addr} {c3 : Nat} (h : PS w x A c A3 c3 w1) (hb : Below w1.heap.size w1 w2) : PS w x A c A3 c3 w2 :=
  ⟨h.b.trans (hb.mono h.b.size), (hb.block _ (Array.getElem?_eq_some_iff.1 h.g0).1).trans h.g0, h.wr.below hb⟩
theorem PS.sz {w w1 : World} {x : Fr} {A : Option Addr} {c : Nat} {A3 : Option Addr} {c3 : Nat} (h : PS w x A c A3 c3 w1) : w.heap.size + 1 < w1.heap.size := h.wr.lt
set_option maxHeartbeats 4000000 in
set_option maxRecDepth 100000 in
theorem framePut_any (w : World) (x : Fr) (A : Option Addr) (c : Nat) (hr : Reads w 1 A x.l.length (sts x.l)) (hB : (bodyL x).length ≤ 100000000) (hl : x.l.length ≤ 2000000) (hok : FrOk x) :
    Calls Try.prog 20 #[.agg (x.cells A c)] w fun e w' => ∃ A1 c1, e = .returned (.tuple #[.slice A1 (putL x).length c1, .int .i64 (putE x : Nat)]) ∧ ByteOut w w' A1 c1 (putL x) := by
  obtain ⟨hb2, hg0, hg1, hsz⟩ := alloc2 w (x.cells A c) 41 #[.slice none 0 0, .bool false] 70
  have hW : IsW ((w.alloc (.cells (x.cells A c) 41)).alloc (.cells #[.slice none 0 0, .bool false] 70)) (w.heap.size + 1) none 0 [] false := ⟨hg1, BRow.nil _, by simp [blk]⟩
  have HBo := Lib.hid (frBody_any hW x A c (hr.below hb2) hB hl hok (fun h0 k hk hf => by
    obtain ⟨ad, rfl, hc⟩ := str_cell hr h0
    have h1 := World.block_lt_of_cell? _ _ hc
    rw [block_of_add] at h1
    have h2 : ad.block = k := Option.some.inj hk
    rcases hf with hf | hf
    · omega
    · cases hf))
  have Hr := Lib.hid hr
  have Hok := Lib.hid hok
  have H2 := Lib.hid (And.intro hb2 (And.intro hg0 (And.intro hsz hW)))
  clear hr hok hb2 hg0 hg1 hsz hW
  have HL := Lib.hid hl
  have HBd := Lib.hid hB
  have htr := fun w' h => told_reads (w := w') (A := A) (x := x) h
  obtain ⟨y, hy⟩ : ∃ y, told x = y := ⟨_, rfl⟩
  rw [hy] at HBo
  simp only [hy] at htr
  have Htr := Lib.hid htr
  have Hy := Lib.hid hy
  clear hl hB htr hy
  obtain ⟨A2, hA2⟩ : ∃ A2, tA x A = A2 := ⟨_, rfl⟩
  obtain ⟨c2, hc2⟩ : ∃ c2, tC x c = c2 := ⟨_, rfl⟩
  rw [hA2, hc2] at HBo
  rw [hA2] at Htr
  clear hA2 hc2
  unfold Fr.cells
  unfold Fr.cells at HBo H2
  go_enter Try.func20, Try.ntmps20
  go_wp2_with fail
  refine HBo.out.mono ?_
  rintro e w3 ⟨rfl, A3, c3, hW3, hC3, hk3⟩
  obtain ⟨hb2, hg0, hsz, hW⟩ := H2.out
  have hb3 : Below w.heap.size w w3 := hb2.trans (hC3.below (fun i hi hf => by
    rcases hf with hf | hf
    · omega
    · cases hf) (by omega))
  have hg3 : w3.heap[w.heap.size]? = _ := (hC3.block w.heap.size (by omega) (fun hf => by
    rcases hf with hf | hf
    · omega
    · cases hf)).trans hg0
  have HP3 := Lib.hid (show PS w x A c A3 c3 w3 from ⟨hb3, hg3, hW3⟩)
  clear hW3 hC3 hk3 hb2 hg0 hsz hW hb3 hg3
  have HP := HP3
  obtain ⟨p0, p1, p2, p3, p4, p5, p6, p7, p8, p9, p10⟩ := frCells HP.out.g0
  obtain ⟨g0, g1, h0, h1⟩ := cells2 HP.out.wr.cell
  have hsz := HP.out.sz
  have hsz0 := Nat.lt_of_succ_lt hsz

  cases hbw : bodyW x with
  | true =>
    have HE := Lib.hid (show putL x = [] ∧ putE x = 6 from ⟨by unfold putL putOk; rw [hbw]; rfl, by unfold putE putOk; rw [hbw]; rfl⟩)
    rw [hbw] at g1
    clear hbw
    go_wp2_with fail
    go_ret2
    exact ⟨none, 0, by rw [HE.out.1, HE.out.2]; rfl, by rw [HE.out.1]; exact ByteOut.nil (HP.out.b.trans ((alloc1 w3 _ _).1.mono HP.out.b.size))⟩
  | false =>
    have Hbw := Lib.hid hbw
    rw [hbw] at g1
    clear hbw
    have h4b := (alloc1 w3 (y.cells A2 c2) 41).1
    have HP4 := Lib.hid (HP.out.below h4b)
    have HAl := Lib.hid (frameAlike_any x y A A2 c c2 (w3.alloc (.cells (y.cells A2 c2) 41)) (Hr.out.below HP4.out.b) (Htr.out _ (Hr.out.below HP4.out.b)) HL.out)
    clear h4b
    unfold Fr.cells at HAl
    go_wp2_with fail
    refine HAl.out.mono ?_
    rintro e w5 ⟨rfl, hb5⟩
    have HP := Lib.hid (HP4.out.below hb5)
    clear hb5 p0 p1 p2 p3 p4 p5 p6 p7 p8 p9 p10 g0 g1 h0 h1 hsz hsz0
    obtain ⟨p0, p1, p2, p3, p4, p5, p6, p7, p8, p9, p10⟩ := frCells HP.out.g0
    obtain ⟨g0, g1, h0, h1⟩ := cells2 HP.out.wr.cell
    have hsz := HP.out.sz
    have hsz0 := Nat.lt_of_succ_lt hsz
  
    cases hal : alikeB x y with
    | false =>
      have HE := Lib.hid (show putL x = [] ∧ putE x = 6 from ⟨by unfold putL putOk; rw [Hbw.out, Hy.out, hal]; rfl, by unfold putE putOk; rw [Hbw.out, Hy.out, hal]; rfl⟩)
      clear hal
      go_wp2_with fail
      go_ret2
      exact ⟨none, 0, by rw [HE.out.1, HE.out.2]; rfl, by rw [HE.out.1]; exact ByteOut.nil HP.out.b⟩
    | true =>
      have HE := Lib.hid (show putL x = headL x ++ bodyL x ++ be 4 (crcAdd 0 (headL x ++ bodyL x)) ∧ putE x = 0 from ⟨by unfold putL putOk; rw [Hbw.out, Hy.out, hal]; rfl, by unfold putE putOk; rw [Hbw.out, Hy.out, hal]; rfl⟩)
      clear hal
      have wk := u64n_wrap x.k
      have wq := wrap64_nat Hok.out.q64
      have wl := u64n_wrap ((bodyL x).length : Int)
      obtain ⟨L0, hL0⟩ : ∃ L0 : List UInt8, L0 = [] := ⟨_, rfl⟩
      have HL0 := Lib.hid hL0
      have HO := Lib.hid (show ByteOut w w5 none 0 L0 by rw [hL0]; exact ByteOut.nil HP.out.b)
      clear hL0
      have HQ := Lib.hid (put_any none [] 0 1 (u64n x.k) (u64n_lt x.k) w5 (Reads.nil _ _ _) (by decide))
      go_wp2_with fail
      refine HQ.out.mono ?_
      rintro e w6 ⟨A6, c6, rfl, ho, hb⟩
      rw [wPut_ok (wOk_true (by omega) (by omega)), show Int.toNat 1 = 1 from rfl] at ho ⊢
      obtain ⟨L6, hL⟩ : ∃ l, l = ([] : List UInt8) ++ be 1 (u64n x.k) := ⟨_, rfl⟩
      rw [← hL] at ho ⊢
      have HL6 := Lib.hid hL
      have HN6 := Lib.hid (show L6.length = 1 by rw [hL, List.length_append, be_length]; rfl)
      have HO := Lib.hid (ByteOut.next HP.out.b ho hb)
      have HP := Lib.hid (HP.out.below hb)
      clear ho hb HQ hL p0 p1 p2 p3 p4 p5 p6 p7 p8 p9 p10 g0 g1 h0 h1 hsz hsz0
      obtain ⟨p0, p1, p2, p3, p4, p5, p6, p7, p8, p9, p10⟩ := frCells HP.out.g0
      obtain ⟨g0, g1, h0, h1⟩ := cells2 HP.out.wr.cell
      have hsz := HP.out.sz
      have hsz0 := Nat.lt_of_succ_lt hsz
      have ok := Hok.out
      have HQ := Lib.hid (put_any A6 L6 c6 8 x.s ok.1 w6 HO.out.1.reads (by rw [HN6.out]; decide))
      go_wp2_with fail
      refine HQ.out.mono ?_
      rintro e w7 ⟨A7, c7, rfl, ho, hb⟩
      rw [wPut_ok (wOk_true (by omega) (by omega)), show Int.toNat 8 = 8 from rfl] at ho ⊢
      obtain ⟨L7, hL⟩ : ∃ l, l = L6 ++ be 8 x.s := ⟨_, rfl⟩
      rw [← hL] at ho ⊢
      have HL7 := Lib.hid hL
      have HN7 := Lib.hid (show L7.length = 9 by rw [hL, List.length_append, be_length, HN6.out])
      have HO := Lib.hid (ByteOut.next HP.out.b ho hb)
      have HP := Lib.hid (HP.out.below hb)
      clear ho hb HQ hL p0 p1 p2 p3 p4 p5 p6 p7 p8 p9 p10 g0 g1 h0 h1 hsz hsz0
      obtain ⟨p0, p1, p2, p3, p4, p5, p6, p7, p8, p9, p10⟩ := frCells HP.out.g0
      obtain ⟨g0, g1, h0, h1⟩ := cells2 HP.out.wr.cell
      have hsz := HP.out.sz
      have hsz0 := Nat.lt_of_succ_lt hsz
      have HQ := Lib.hid (put_any A7 L7 c7 8 x.e ok.2.1 w7 HO.out.1.reads (by rw [HN7.out]; decide))
      go_wp2_with fail
      refine HQ.out.mono ?_
      rintro e w8 ⟨A8, c8, rfl, ho, hb⟩
      rw [wPut_ok (wOk_true (by omega) (by omega)), show Int.toNat 8 = 8 from rfl] at ho ⊢
      obtain ⟨L8, hL⟩ : ∃ l, l = L7 ++ be 8 x.e := ⟨_, rfl⟩
      rw [← hL] at ho ⊢
      have HL8 := Lib.hid hL
      have HN8 := Lib.hid (show L8.length = 17 by rw [hL, List.length_append, be_length, HN7.out])
      have HO := Lib.hid (ByteOut.next HP.out.b ho hb)
      have HP := Lib.hid (HP.out.below hb)
      clear ho hb HQ hL p0 p1 p2 p3 p4 p5 p6 p7 p8 p9 p10 g0 g1 h0 h1 hsz hsz0
      obtain ⟨p0, p1, p2, p3, p4, p5, p6, p7, p8, p9, p10⟩ := frCells HP.out.g0
      obtain ⟨g0, g1, h0, h1⟩ := cells2 HP.out.wr.cell
      have hsz := HP.out.sz
      have hsz0 := Nat.lt_of_succ_lt hsz
      have HQ := Lib.hid (put_any A8 L8 c8 4 x.q Hok.out.q64 w8 HO.out.1.reads (by rw [HN8.out]; decide))
      go_wp2_with fail
      refine HQ.out.mono ?_
      rintro e w9 ⟨A9, c9, rfl, ho, hb⟩
      rw [wPut_ok (wOk_true (by omega) (by omega)), show Int.toNat 4 = 4 from rfl] at ho ⊢
      obtain ⟨L9, hL⟩ : ∃ l, l = L8 ++ be 4 x.q := ⟨_, rfl⟩
      rw [← hL] at ho ⊢
      have HL9 := Lib.hid hL
      have HN9 := Lib.hid (show L9.length = 21 by rw [hL, List.length_append, be_length, HN8.out])
      have HO := Lib.hid (ByteOut.next HP.out.b ho hb)
      have HP := Lib.hid (HP.out.below hb)
      clear ho hb HQ hL p0 p1 p2 p3 p4 p5 p6 p7 p8 p9 p10 g0 g1 h0 h1 hsz hsz0
      obtain ⟨p0, p1, p2, p3, p4, p5, p6, p7, p8, p9, p10⟩ := frCells HP.out.g0
      obtain ⟨g0, g1, h0, h1⟩ := cells2 HP.out.wr.cell
      have hsz := HP.out.sz
      have hsz0 := Nat.lt_of_succ_lt hsz
      have HQ := Lib.hid (put_any A9 L9 c9 2 (u64n (bodyL x).length) (u64n_lt _) w9 HO.out.1.reads (by rw [HN9.out]; decide))
      go_wp2_with fail
      refine HQ.out.mono ?_
      rintro e w10 ⟨A10, c10, rfl, ho, hb⟩
      rw [wPut_ok (wOk_true (by omega) (by omega)), show Int.toNat 2 = 2 from rfl] at ho ⊢
      obtain ⟨L10, hL⟩ : ∃ l, l = L9 ++ be 2 (u64n (bodyL x).length) := ⟨_, rfl⟩
      rw [← hL] at ho ⊢
      have HL10 := Lib.hid hL
      have HN10 := Lib.hid (show L10.length = 23 by rw [hL, List.length_append, be_length, HN9.out])
      have HO := Lib.hid (ByteOut.next HP.out.b ho hb)
      have HP := Lib.hid (HP.out.below hb)
      clear ho hb HQ hL p0 p1 p2 p3 p4 p5 p6 p7 p8 p9 p10 g0 g1 h0 h1 hsz hsz0
      obtain ⟨p0, p1, p2, p3, p4, p5, p6, p7, p8, p9, p10⟩ := frCells HP.out.g0
      obtain ⟨g0, g1, h0, h1⟩ := cells2 HP.out.wr.cell
      have hsz := HP.out.sz
      have hsz0 := Nat.lt_of_succ_lt hsz
      clear ok wk wq wl
      have HH := Lib.hid (show L10 = headL x by rw [HL10.out, HL9.out, HL8.out, HL7.out, HL6.out]; rfl)
      obtain ⟨L11, hL⟩ : ∃ l, l = L10 ++ bodyL x := ⟨_, rfl⟩
      have HL11 := Lib.hid (show L11 = headL x ++ bodyL x by rw [hL, HH.out])
      have HN11 := Lib.hid (show L11.length = 23 + (bodyL x).length by rw [hL, List.length_append, HN10.out])
      replace hL := Lib.hid hL
      go_wp2_with (at_builtin; refine append_bbn rfl (.tmp 47) (.tmp 51) rfl A10 c10 L10 rfl HO.out.1 A3 c3 (bodyL x) rfl HP.out.wr.row.reads (by rw [HN10.out]; have := HBd.out; omega) L11 hL.out ?_)
      intro A11 c11 w11 hr11 hc11 hk11
      have hb11 := hc11.below (B := w.heap.size) (fun i hi hf => by have := HO.out.2.1 i hf; omega) HP.out.b.size
      have HO11 := Lib.hid (show ByteOut w w11 A11 c11 L11 from ⟨hr11, fun k hk => by
        rcases hk11 k hk with h | h
        · exact HO.out.2.1 k h
        · have := HP.out.b.size; omega, HP.out.b.trans hb11⟩)
      have HC := Lib.hid (crcSum_any A11 L11 c11 w11 hr11.reads (by rw [HN11.out]; have := HBd.out; unfold maxLen; omega))
      clear hL hr11 hc11 hk11 hb11
      go_wp2_with fail
      refine HC.out.mono ?_
      rintro e w12 ⟨rfl, hb12⟩
      have HO12 := Lib.hid (HO11.out.keep hb12)
      have hcl := crcAdd_lt 0 L11
      have wc := wrap64_nat (show crcAdd 0 L11 < 18446744073709551616 by omega)
      have HQ := Lib.hid (put_any A11 L11 c11 4 (crcAdd 0 L11) (by omega) w12 HO12.out.1.reads (by rw [HN11.out]; have := HBd.out; omega))
      clear hb12 hcl
      go_wp2_with fail
      refine HQ.out.mono ?_
      rintro e w13 ⟨A13, c13, rfl, ho, hb⟩
      rw [wPut_ok (wOk_true (by omega) (by omega)), show Int.toNat 4 = 4 from rfl] at ho ⊢
      have HF := Lib.hid (show putL x = L11 ++ be 4 (crcAdd 0 L11) by rw [HE.out.1, HL11.out])
      have HO13 := Lib.hid (ByteOut.next HO12.out.2.2 ho hb)
      rw [← HF.out] at HO13 ⊢
      clear ho hb HQ wc
      go_wp2_with fail
      go_ret2
      exact ⟨A13, c13, by rw [HE.out.2]; rfl, HO13.out⟩
end Go.Proofs.Ytcahflddafdhfaa
