/- Arks: bytes as an image, walked. -/
import Derived.Test.YtcahflddafdhfaaArk4
import Derived.Test.YtcahflddafdhfaaEqB
open Go.RowKit Go.Shelf
namespace Go.Proofs.Ytcahflddafdhfaa

def unImg (l : List UInt8) : List ByteArray :=
  if h : 65 ≤ l.length then List.replicate (l[0]'(by omega)).toNat ⟨((l.drop 1).take 64).toArray⟩ ++ unImg (l.drop 65) else []
termination_by l.length
decreasing_by simp; omega
theorem unImg_step {l : List UInt8} (h : 65 ≤ l.length) : unImg l = List.replicate (l[0]'(by omega)).toNat ⟨((l.drop 1).take 64).toArray⟩ ++ unImg (l.drop 65) := by
  rw [unImg, dif_pos h]
theorem unImg_end {l : List UInt8} (h : ¬ 65 ≤ l.length) : unImg l = [] := by rw [unImg, dif_neg h]
theorem unImg_length : ∀ l : List UInt8, (unImg l).length ≤ 4 * l.length := by
  have key : ∀ (n : Nat) (l : List UInt8), l.length ≤ n → (unImg l).length ≤ 4 * l.length := by
    intro n
    induction n with
    | zero =>
      intro l h
      rw [unImg_end (by omega)]
      exact Nat.zero_le _
    | succ n ih =>
      intro l h
      by_cases h1 : 65 ≤ l.length
      · have h2 := ih (l.drop 65) (by rw [List.length_drop]; omega)
        rw [List.length_drop] at h2
        have h3 := (l[0]'(by omega)).toNat_lt
        rw [unImg_step h1, List.length_append, List.length_replicate]
        omega
      · rw [unImg_end h1]; exact Nat.zero_le _
  exact fun l => key l.length l (Nat.le_refl _)
def unI (l : List UInt8) : List ByteArray := unImg ((l.drop 6).take (l.length - 4 - 6))
def unE (l : List UInt8) : Nat :=
  if l.length < 10 then 7 else if gNum l (l.length - 4 : Nat) 4 ≠ crcAdd 0 (l.take (l.length - 4)) then 9
  else if packE (unI l) ≠ 0 ∨ packL (unI l) ≠ l then 6 else 0
def unX (l : List UInt8) : List ByteArray := if unE l = 0 then unI l else []
section
variable {l : List UInt8}
theorem unE_1 (h : l.length < 10) : unE l = 7 ∧ unX l = [] := by
  have e : unE l = 7 := by unfold unE; rw [if_pos h]
  exact ⟨e, by unfold unX; rw [e]; rfl⟩
theorem unE_2 (h : ¬ l.length < 10) (h2 : gNum l (l.length - 4 : Nat) 4 ≠ crcAdd 0 (l.take (l.length - 4))) : unE l = 9 ∧ unX l = [] := by
  have e : unE l = 9 := by unfold unE; rw [if_neg h, if_pos h2]
  exact ⟨e, by unfold unX; rw [e]; rfl⟩
theorem unE_3 (h : ¬ l.length < 10) (h2 : gNum l (l.length - 4 : Nat) 4 = crcAdd 0 (l.take (l.length - 4))) (h3 : packE (unI l) ≠ 0 ∨ packL (unI l) ≠ l) : unE l = 6 ∧ unX l = [] := by
  have e : unE l = 6 := by unfold unE; rw [if_neg h, if_neg (fun h => h h2), if_pos h3]
  exact ⟨e, by unfold unX; rw [e]; rfl⟩
theorem unE_4 (h : ¬ l.length < 10) (h2 : gNum l (l.length - 4 : Nat) 4 = crcAdd 0 (l.take (l.length - 4))) (h3 : packE (unI l) = 0) (h4 : packL (unI l) = l) : unE l = 0 ∧ unX l = unI l := by
  have e : unE l = 0 := by
    unfold unE
    rw [if_neg h, if_neg (fun h => h h2), if_neg]
    rintro (h5 | h5)
    · exact h5 h3
    · exact h5 h4
  exact ⟨e, by unfold unX; rw [if_pos e]⟩
end
/-- One run read. -/
theorem run_read {l : List UInt8} (h : 65 ≤ l.length) : rNum l 0 1 = (l[0]'(by omega)).toNat ∧ rNumL l 0 1 = l.drop 1 ∧ rNumE l 0 1 = 0 ∧ rBytes (l.drop 1) 0 64 = (l.drop 1).take 64 ∧ rBytesE (l.drop 1) 0 64 = 0 ∧ rBytesL (l.drop 1) 0 64 = l.drop 65 := by
  have he : gErr l.length 0 1 = 0 := gErr_ok (by omega) (by omega)
  obtain ⟨h4, h5, h6⟩ := rBytes_ok (l := l.drop 1) (x := 64) (by rw [List.length_drop]; omega)
  refine ⟨?_, ?_, ?_, h4, h5, by rw [show ((64 : Nat) : Int) = 64 from rfl] at h6; rw [h6, List.drop_drop]⟩
  · unfold rNum
    rw [if_pos rfl, gNum_ok he]
    cases l with
    | nil => simp at h
    | cons c l =>
      show beNum [c] = c.toNat
      have := beNum_snoc [] c
      rw [List.nil_append] at this
      rw [this, beNum_nil]
      omega
  · unfold rNumL
    rw [if_pos ⟨rfl, he⟩]
    rfl
  · unfold rNumE
    rw [if_pos rfl, he]
/-- A fresh row of texts that a function returns. -/
def TxtOut (w w' : World) (A : Option Addr) (c : Nat) (l : List ByteArray) : Prop := SRow w' A c l ∧ (∀ k, blk A = some k → w.heap.size ≤ k) ∧ Below w.heap.size w w'
theorem TxtOut.nil {w w' : World} (hb : Below w.heap.size w w') : TxtOut w w' none 0 [] := ⟨SRow.nil _, by simp [blk], hb⟩
theorem TxtOut.keep {w w' w2 : World} {A : Option Addr} {c : Nat} {l : List ByteArray} (h : TxtOut w w' A c l) (hb : Below w'.heap.size w' w2) : TxtOut w w2 A c l := ⟨h.1.below hb, h.2.1, h.2.2.trans (hb.mono h.2.2.size)⟩
theorem append_s1 {w : World} {ops : Array Oper} {rest : List Oper} {o : Oper} {a : Act} {Q : Exit → Act → World → Prop} (hgd : o.guard = none) (s x : Operand)
    (ho : o.op = .call { callee := .builtin .append, args := #[s, x], argTypes := #[22, 22] })
    (A : Option Addr) (c : Nat) (ps : List ByteArray) (hs : a.eval s = .slice A ps.length c) (hrow : SRow w A c ps)
    (A' : Option Addr) (c' : Nat) (q : ByteArray) (hx : a.eval x = .slice A' 1 c') (hr : Reads w 1 A' 1 (sts [q])) (hlen : ps.length + 1 ≤ 100000)
    (n : List ByteArray) (hn : n = ps ++ [q])
    (h : ∀ A1 c1 w1, SRow w1 A1 c1 n → Chg (fun i => blk A = some i) w w1 → (∀ k, blk A1 = some k → blk A = some k ∨ k = w.heap.size) → wpList Try.prog ops Q rest (a.put o.dst (.slice A1 n.length c1)) w1) : wpList Try.prog ops Q (o :: rest) a w := by
  subst hn
  exact wpList_append_st hgd s x ho A c ps hs hrow A' c' [q] 1 rfl hx hr hlen h
/-- In the midst of unpacking: the reader at g, its bytes; the image so far. -/
structure UnI (w : World) (g : Nat) (A : Option Addr) (c : Nat) (img : List ByteArray) (rest : List UInt8) (W : World) : Prop where
  b : Below w.heap.size w W
  row : SRow W A c img
  rd : IsRB W g rest 0
  ge : w.heap.size ≤ g
  up : ∀ k, blk A = some k → g < k
section
variable {w : World} {g : Nat} {A : Option Addr} {c : Nat} {img : List ByteArray} {rest : List UInt8} {W W' : World}
theorem UnI.below (h : UnI w g A c img rest W) (hb : Below W.heap.size W W') : UnI w g A c img rest W' :=
  ⟨h.b.trans (hb.mono h.b.size), h.row.below hb, h.rd.below hb, h.ge, h.up⟩
theorem UnI.read (h : UnI w g A c img rest W) {rest' : List UInt8} (hr : IsRB W' g rest' 0) (hk : W.grownBy W' (some g)) : UnI w g A c img rest' W' := by
  have hc : Chg (fun i => i = g) W W' := (Chg.of_grown hk).mono (fun i _ hi => Option.some.inj hi)
  exact ⟨h.b.trans (hc.below (fun i hi e => by have := h.ge; omega) h.b.size), h.row.chg hc (fun k hk e => by have := h.up k hk; omega), hr, h.ge, h.up⟩
theorem UnI.rowTo (h : UnI w g A c img rest W) {A1 : Option Addr} {c1 : Nat} {n : List ByteArray} (hr : SRow W' A1 c1 n) (hc : Chg (fun i => blk A = some i) W W') (hk : ∀ k, blk A1 = some k → blk A = some k ∨ k = W.heap.size) : UnI w g A1 c1 n rest W' :=
  ⟨h.b.trans (hc.below (fun i hi e => by have := h.up i e; have := h.ge; omega) h.b.size), hr, h.rd.keep (fun k hk => hc.block k (by have := h.rd.lt; omega) (fun e => by have := h.up _ e; omega)), h.ge,
    fun k hk2 => by rcases hk k hk2 with h2 | h2; exact h.up k h2; have := h.rd.lt; omega⟩
theorem UnI.left (h : UnI w g A c img rest W) : leftOf g W = rest.length := by
  obtain ⟨A', c', h1, _⟩ := h.rd
  unfold leftOf
  rw [cell_of_row _ _ _ _ _ _ h1]
  rfl
end
theorem srow_cap {w : World} {A : Option Addr} {c : Nat} {l : List ByteArray} (h : SRow w A c l) : l.length ≤ c := by
  obtain ⟨A', c', e, h1⟩ := own_slice h
  injection e with e1 e2 e3
  omega
theorem pack_parts {l : List ByteArray} (h : packE l = 0) : l.length ≤ 128 ∧ oddB l = false := by
  unfold packE at h
  split at h
  · cases h
  · split at h
    · cases h
    · rename_i h1 h2
      exact ⟨by omega, by simpa using h2⟩
theorem packL_len (l : List ByteArray) : (packL l).length ≤ 20000 := by
  unfold packL
  split
  · rename_i h
    obtain ⟨h1, h2⟩ := pack_parts h
    have h3 := arkHead_len l l.length (runsOf l) (fun x hx => Nat.le_of_eq (oddB_no h2 _ (runsOf_mem l x hx).1)) (Nat.le_trans (runsOf_length l) h1)
    unfold arkBody
    rw [List.length_append, be_length]
    omega
  · simp
theorem cut6 {w : World} {A : Option Addr} {l : List UInt8} {c n : Nat} (h : Reads w 1 A l.length (bv l)) (h6 : 6 ≤ n) (hn : n ≤ l.length) (hc : l.length ≤ c) (h0 : c ≠ 6) :
    Reads w 1 (Option.map (fun x => ({ block := x.block, off := x.off + 6 } : Addr)) A) (n - 6) (bv ((l.drop 6).take (n - 6))) := by
  have h1 := (h.drop_ (lo := 6) (by omega) hc).take_ (k := n - 6) (by omega)
  rw [if_neg h0] at h1
  have e : A.map (fun x => x.add (6 * 1)) = Option.map (fun x => ({ block := x.block, off := x.off + 6 } : Addr)) A := by cases A <;> simp [Addr.add]
  rw [e] at h1
  simpa [bv, List.map_take, List.map_drop] using h1
theorem wrap32N {n : Nat} (h : n < 4294967296) : IntKind.u32.wrap (n : Int) = (n : Int) := by
  unfold IntKind.wrap
  simp [IntKind.bits, IntKind.signed]
  omega
set_option maxHeartbeats 4000000 in
set_option maxRecDepth 100000 in
theorem arkUnpack_any (A0 : Option Addr) (l : List UInt8) (c0 : Nat) (w : World) (hr : Reads w 1 A0 l.length (bv l)) (hc : l.length ≤ c0) (hl : l.length ≤ 10000) :
    Calls Try.prog 15 #[.slice A0 l.length c0] w fun e w' => ∃ A1 c1, e = .returned (.tuple #[.slice A1 (unX l).length c1, .int .i64 (unE l : Nat)]) ∧ TxtOut w w' A1 c1 (unX l) := by
  have Hr := Lib.hid hr
  have Hc := Lib.hid hc
  have Hl := Lib.hid hl
  clear hr hc
  by_cases h1 : l.length < 10
  · have HE := Lib.hid (unE_1 h1)
    go_enter Try.func15, Try.ntmps15
    go_wp2_with fail
    go_ret2
    exact ⟨none, 0, by rw [HE.out.1, HE.out.2]; rfl, by rw [HE.out.2]; exact TxtOut.nil (Below.refl _ _)⟩
  obtain ⟨n, hn⟩ : ∃ n, l.length = n + 4 := ⟨l.length - 4, by omega⟩
  have en : l.length - 4 = n := by omega
  have HG := Lib.hid (get_any A0 l c0 (n : Nat) 4 w Hr.out Hc.out (by unfold maxLen; omega))
  rw [gErr_ok (by omega) (by omega)] at HG
  have hS : gNum l (n : Nat) 4 < 4294967296 := by
    unfold gNum
    split
    · refine Nat.lt_of_lt_of_le (beNum_lt _) ?_
      rw [show (4294967296 : Nat) = 256 ^ 4 from rfl]
      refine Nat.pow_le_pow_right (by decide) ?_
      rw [List.length_take]
      exact Nat.min_le_left _ _
    · decide
  obtain ⟨S, hSe⟩ : ∃ S, gNum l (n : Nat) 4 = S := ⟨_, rfl⟩
  obtain ⟨C, hCe⟩ : ∃ C, crcAdd 0 (l.take n) = C := ⟨_, rfl⟩
  rw [hSe] at HG hS
  have HSC := Lib.hid (show gNum l (l.length - 4 : Nat) 4 = S ∧ crcAdd 0 (l.take (l.length - 4)) = C by rw [en]; exact ⟨hSe, hCe⟩)
  have hw32 := wrap32N hS
  have hsub : (l.length : Int) - 4 = (n : Int) := by omega
  obtain ⟨hcut, hcr⟩ := cutB_to A0 c0 l n (by omega) Hc.out
  obtain ⟨A6, hA6⟩ : ∃ A6, Option.map (fun x => ({ block := x.block, off := x.off + 6 } : Addr)) A0 = A6 := ⟨_, rfl⟩
  have hcr6 := fun w' h => cut6 (A := A0) (c := c0) (l := l) (n := n) (w := w') h (by omega) (by omega) Hc.out (by have := Hc.out; omega)
  rw [hA6] at hcr6
  have hln : (l.take n).length = n := by rw [List.length_take]; omega
  have hln6 : ((l.drop 6).take (n - 6)).length = n - 6 := by rw [List.length_take, List.length_drop]; omega
  have HC := Lib.hid (fun w' h => crcSum_any A0 (l.take n) c0 w' (hcr w' h) (by rw [hln]; unfold maxLen; omega))
  rw [hCe, hln] at HC
  have HN := Lib.hid (fun w' h => newB_any A6 ((l.drop 6).take (n - 6)) (c0 - 6) w' (by rw [hln6]; exact hcr6 w' h) (by rw [hln6]; omega))
  rw [hln6] at HN
  have HI := Lib.hid (show unImg ((l.drop 6).take (n - 6)) = unI l by unfold unI; rw [en])
  have HLn := Lib.hid hln6
  have hn6 : 6 ≤ n := by omega
  have hc6 : ¬ c0 = 6 := by have := Hc.out; omega
  have hnc : (n : Int) ≤ (c0 : Int) := by have := Hc.out; omega
  have H1 := Lib.hid h1
  have HNl := Lib.hid hn
  clear hSe hCe hcr hcr6 hln hln6 en h1 hn hS
  by_cases hsc : S = C
  rotate_left
  · have hne : ((S : Int) != (C : Int)) = true := by rw [bne_iff_ne]; omega
    have HE := Lib.hid (unE_2 H1.out (by rw [HSC.out.1, HSC.out.2]; exact hsc))
    clear hsc
    go_enter Try.func15, Try.ntmps15
    go_wp2_with fail
    refine HG.out.mono ?_
    rintro e w' ⟨rfl, rfl⟩
    go_wp2_with fail
    refine (HC.out _ Hr.out).mono ?_
    rintro e w1 ⟨rfl, hb⟩
    go_wp2_with fail
    go_ret2
    exact ⟨none, 0, by rw [HE.out.1, HE.out.2]; rfl, by rw [HE.out.2]; exact TxtOut.nil hb⟩
  have hne : ((S : Int) != (C : Int)) = false := by rw [hsc]; simp
  have HS := Lib.hid (HSC.out.1.trans (hsc.trans HSC.out.2.symm))
  clear hsc
  go_enter Try.func15, Try.ntmps15
  go_wp2_with fail
  refine HG.out.mono ?_
  rintro e w' ⟨rfl, rfl⟩
  go_wp2_with fail
  refine (HC.out _ Hr.out).mono ?_
  rintro e w1 ⟨rfl, hb⟩
  have HB := Lib.hid hb
  clear hb
  go_wp2_with fail
  clear hne hw32 hcut HC HG
  refine (HN.out _ (Hr.out.below HB.out)).mono ?_
  rintro e w2 ⟨g, rfl, hR, hg, hb⟩
  have HU := Lib.hid (show UnI w g none 0 [] ((l.drop 6).take (n - 6)) w2 from ⟨HB.out.trans (hb.mono HB.out.size), SRow.nil _, hR, Nat.le_trans HB.out.size hg, by simp [blk]⟩)
  clear hR hg hb hA6 HN
  go_wp2_with fail
  clear hc6 hnc hsub
  go_loopw [8] (fun im wr => ∃ A c img, im = .slice A img.length c ∧ Hid (∃ rest, UnI w g A c img rest wr ∧ img ++ unImg rest = unI l ∧ rest.length ≤ 10000)) (fun _ wr => leftOf g wr)
  case atStart => exact ⟨none, 0, [], rfl, Lib.hid ⟨_, HU.out, HI.out, by rw [HLn.out]; have := HNl.out; omega⟩⟩
  case round =>
    obtain ⟨wo, rfl⟩ : ∃ wo : World, wo = wr := ⟨_, rfl⟩
    obtain ⟨A, c, img, rfl, hrel⟩ := hrel
    obtain ⟨rest, hu, hi, hr⟩ := hrel.out
    have hleft : rLeft rest 0 = rest.length := by unfold rLeft; rw [if_pos rfl]
    have HL := Lib.hid (left_any g rest 0 wo hu.rd.isR)
    rw [hleft] at HL
    have HU := Lib.hid hu
    have HI := Lib.hid hi
    have HR := Lib.hid hr
    clear hu hi hrel hleft
    by_cases h65 : 65 ≤ rest.length
    · obtain ⟨r1, r2, r3, r4, r5, r6⟩ := run_read h65
      have hm256 : (rest[0]'(by omega)).toNat < 256 := (rest[0]'(by omega)).toNat_lt
      have HSt := Lib.hid (unImg_step h65)
      obtain ⟨m, hm⟩ : ∃ m, (rest[0]'(by omega)).toNat = m := ⟨_, rfl⟩
      obtain ⟨T, hT⟩ : ∃ T : ByteArray, (⟨((rest.drop 1).take 64).toArray⟩ : ByteArray) = T := ⟨_, rfl⟩
      rw [hm] at r1 hm256 HSt
      rw [hT] at HSt
      have HN := Lib.hid (numB_any g rest 0 1 wo HU.out.rd)
      rw [r1, r2, r3] at HN
      have HBy := Lib.hid (fun w' h => bytesB_any g (rest.drop 1) 0 64 w' h (by rw [List.length_drop]; omega))
      rw [r4, r5, r6] at HBy
      obtain ⟨B, hB⟩ : ∃ B, (rest.drop 1).take 64 = B := ⟨_, rfl⟩
      rw [hB] at HBy hT
      have HT := Lib.hid hT
      have H65 := Lib.hid h65
      clear r1 r2 r3 r4 r5 r6 hm hT hB
      go_wp2_with fail
      refine HL.out.mono ?_
      rintro e w' ⟨rfl, rfl⟩
      go_wp2_with fail
      refine HN.out.mono ?_
      rintro e w3 ⟨rfl, hr3, hk3⟩
      have HU3 := Lib.hid (HU.out.read hr3 hk3)
      clear hr3 hk3 HN HL
      go_wp2_with fail
      refine (HBy.out _ HU3.out.rd).mono ?_
      rintro e w4 ⟨A5, c5, rfl, ho, hr4, hk4⟩
      have hcv := run_string_of_bytes c5 ho.reads
      rw [HT.out] at hcv
      have HU4 := Lib.hid (HU3.out.read hr4 hk4)
      clear hr4 hk4 HBy ho
      go_wp2_with fail
      clear hcv
      go_loopw [8, 49] (fun im j wr => ∃ A c k, k ≤ m ∧ im = .slice A (img ++ List.replicate k T).length c ∧ j = .int .u64 (k : Nat) ∧ Hid (UnI w g A c (img ++ List.replicate k T) (rest.drop 65) wr)) (fun _ j _ => m - (intOf j).toNat)
      case atStart => exact ⟨A, c, 0, Nat.zero_le _, by simp, rfl, by rw [show List.replicate 0 T = [] from rfl, List.append_nil]; exact HU4⟩
      case round =>
        obtain ⟨A, c, k, hk, rfl, rfl, HU5⟩ := hrel
        by_cases hlt : k < m
        · obtain ⟨im, him⟩ : ∃ im, img ++ List.replicate k T = im := ⟨_, rfl⟩
          have HI1 := Lib.hid (show img ++ List.replicate (k + 1) T = im ++ [T] by rw [← him, List.replicate_succ', List.append_assoc])
          have HIl := Lib.hid (show im.length ≤ 50000 by
            have h1 := unImg_length rest
            have h2 := congrArg List.length HI.out
            have h3 := unImg_length ((l.drop 6).take (l.length - 4 - 6))
            have h4 : (unI l).length ≤ 4 * 10000 := Nat.le_trans h3 (by rw [List.length_take, List.length_drop]; have := Hl.out; omega)
            rw [List.length_append] at h2
            rw [← him, List.length_append, List.length_replicate]
            omega)
          rw [him] at HU5 ⊢
          clear him
          obtain ⟨L1, hL1⟩ : ∃ L1, L1 = im ++ [T] := ⟨_, rfl⟩
          rw [← hL1] at HI1
          have HL1 := Lib.hid hL1
          have HBx := Lib.hid (Reads.box wr (.string T) 9)
          have HU6 := Lib.hid (HU5.out.below (alloc1 wr #[.string T] 9).1)
          clear hL1
          go_wp2_with (at_builtin; refine append_s1 rfl (.tmp 51) (.tmp 53) rfl A c im rfl HU6.out.row (some ⟨wr.heap.size, 0, none⟩) 1 T rfl HBx.out (by have := HIl.out; omega) L1 HL1.out ?_)
          intro A1 c1 w9 hr1 hc1 hk1
          have HU7 := Lib.hid (HU6.out.rowTo hr1 hc1 (fun k hk => (hk1 k hk).imp id (fun e => by rw [e]; exact (size_alloc _ _).symm)))
          clear hr1 hc1 hk1 HU5
          go_wp2_with fail
          case roundEnd => exact ⟨⟨A1, c1, k + 1, by omega, by rw [HI1.out], by push_cast; rfl, by rw [HI1.out]; exact HU7⟩, by simp only [intOf]; omega⟩
        · obtain rfl : k = m := by omega
          go_wp2_with fail
          case roundEnd =>
            refine ⟨⟨A, c, _, rfl, Lib.hid ⟨_, HU5.out, ?_, by rw [List.length_drop]; have := HR.out; omega⟩⟩, ?_⟩
            · rw [List.append_assoc, ← HSt.out]
              exact HI.out
            · rw [HU5.out.left, HU.out.left, List.length_drop]
              have := H65.out
              omega
    · have HX := Lib.hid (show img = unI l by have h := HI.out; rwa [unImg_end h65, List.append_nil] at h)
      have HIl := Lib.hid (show img.length ≤ 40000 by
        rw [HX.out]
        exact Nat.le_trans (unImg_length _) (by rw [List.length_take, List.length_drop]; have := Hl.out; omega))
      have HP := Lib.hid (arkPack_any A img c wo HU.out.row.reads (srow_cap HU.out.row) (by have := HIl.out; omega))
      obtain ⟨pe, hpe⟩ : ∃ pe, packE img = pe := ⟨_, rfl⟩
      obtain ⟨P, hP⟩ : ∃ P, packL img = P := ⟨_, rfl⟩
      rw [hpe, hP] at HP
      have HPE := Lib.hid (show packE (unI l) = pe by rw [← HX.out, hpe])
      have HPL := Lib.hid (show packL (unI l) = P by rw [← HX.out, hP])
      clear hpe hP
      go_wp2_with fail
      refine HL.out.mono ?_
      rintro e w' ⟨rfl, rfl⟩
      go_wp2_with fail
      refine HP.out.mono ?_
      rintro e w3 ⟨A3, c3, rfl, ho⟩
      have HO := Lib.hid ho
      have HU3 := Lib.hid (HU.out.below ho.2.2)
      clear ho HP HL
      cases hp0 : ((pe : Int) == 0) with
      | false =>
        have hp1 : ((pe : Int) != 0) = true := by rw [bne, hp0]; rfl
        have HE := Lib.hid (unE_3 H1.out HS.out (.inl (by rw [HPE.out]; intro h; rw [h] at hp0; cases hp0)))
        go_wp2_with fail
        go_ret2
        exact ⟨none, 0, by rw [HE.out.1, HE.out.2]; rfl, by rw [HE.out.2]; exact TxtOut.nil HU3.out.b⟩
      | true =>
        have hp1 : ((pe : Int) != 0) = false := by rw [bne, hp0]; rfl
        have HP0 := Lib.hid (show packE (unI l) = 0 by rw [HPE.out]; have := eq_of_beq hp0; omega)
        have HQ := Lib.hid (eqBytes_any A3 A0 P l c3 c0 w3 HO.out.1.reads (Hr.out.below HU3.out.b) (by rw [← HPL.out]; have := packL_len (unI l); omega))
        by_cases hpl : P = l
        · rw [decide_eq_true hpl] at HQ
          have HE := Lib.hid (unE_4 H1.out HS.out HP0.out (by rw [HPL.out]; exact hpl))
          clear hpl
          go_wp2_with fail
          refine HQ.out.mono ?_
          rintro e w4 ⟨rfl, hb⟩
          have HU4 := Lib.hid (HU3.out.below hb)
          clear hb
          go_wp2_with fail
          go_ret2
          exact ⟨A, c, by rw [HE.out.1, HE.out.2, ← HX.out]; rfl, by rw [HE.out.2, ← HX.out]; exact ⟨HU4.out.row, fun k hk => by have := HU4.out.up k hk; have := HU4.out.ge; omega, HU4.out.b⟩⟩
        · rw [decide_eq_false hpl] at HQ
          have HE := Lib.hid (unE_3 H1.out HS.out (.inr (by rw [HPL.out]; exact hpl)))
          clear hpl
          go_wp2_with fail
          refine HQ.out.mono ?_
          rintro e w4 ⟨rfl, hb⟩
          have HU4 := Lib.hid (HU3.out.below hb)
          clear hb
          go_wp2_with fail
          go_ret2
          exact ⟨none, 0, by rw [HE.out.1, HE.out.2]; rfl, by rw [HE.out.2]; exact TxtOut.nil HU4.out.b⟩
end Go.Proofs.Ytcahflddafdhfaa
