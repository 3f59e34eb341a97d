/- A past: its epochs, and an epoch's image. -/
import Derived.Test.YtiolfnnkkflaiaaPast7
import Derived.Test.YtiolfnnkkflaiaaDel5
open Go.RowKit
namespace Go.Proofs.Ytiolfnnkkflaiaa

theorem SRow.none_ {w : World} {c : Nat} {A : Option Addr} {l : List ByteArray} (h : SRow w A c l) : A = none → l = [] ∧ c = 0 := fun e => by
  rcases h.2 with ⟨hv, h0⟩ | ⟨g, cap, cur, hv, _⟩
  · injection hv with _ h1 h2
    exact ⟨List.eq_nil_of_length_eq_zero h0, h2⟩
  · subst e; injection hv with h1; cases h1
theorem ITab.cell {w : World} {B : Option Addr} {d : Nat} {I : List IM} (h : ITab w B d I) {k : Nat} (hk : k < I.length) : ∃ b, B = some ⟨b, 0, none⟩ ∧ b < w.heap.size ∧ w.cell? ⟨b, k * 2, none⟩ = some (.int .u64 I[k].e) ∧ w.cell? ⟨b, k * 2 + 1, none⟩ = some (.slice I[k].A I[k].xs.length I[k].c) := by
  obtain ⟨g, cap, hv, _, hlt⟩ := World.ownsRow.form h.row (by omega)
  injection hv with hA
  subst hA
  refine ⟨g, rfl, hlt, ?_, ?_⟩
  · rw [World.ownsRow.cellAt h.row (k * 2) (by omega)]; exact (ivs_get I k hk).1
  · rw [World.ownsRow.cellAt h.row (k * 2 + 1) (by omega)]; exact (ivs_get I k hk).2

/-! ### rows of words -/
def nvs (l : List Nat) : List Value := l.map fun n => .int .u64 ((n : Nat) : Int)
theorem nvs_length (l : List Nat) : (nvs l).length = l.length := by simp [nvs]
theorem nvs_append (a b : List Nat) : nvs (a ++ b) = nvs a ++ nvs b := by simp [nvs]
theorem nvs_get (l : List Nat) (k : Nat) (hk : k < l.length) : (nvs l)[k]? = some (.int .u64 (l[k] : Int)) := by simp [nvs, hk]
theorem oneCell_nvs (l : List Nat) : ∀ u ∈ nvs l, u.oneCell' = true := by
  intro u hu
  simp only [nvs, List.mem_map] at hu
  obtain ⟨s, _, rfl⟩ := hu
  rfl
theorem info_nu : (Try.prog.info? 57).map (fun i => (i.zero, i.size, i.bytes)) = some (some (.int .u64 0), 1, 8) := by kernel_rfl
def NRow (w : World) (A : Option Addr) (c : Nat) (l : List Nat) : Prop := w.ownsRow 0 57 1 (.slice A l.length c) l.length (nvs l)
section
variable {w w1 : World} {A : Option Addr} {c : Nat} {l : List Nat}
theorem NRow.nil (w : World) : NRow w none 0 [] := own_nil w 0 _ 1
theorem NRow.reads (h : NRow w A c l) : Reads w 1 A l.length (nvs l) := Reads.of_own h
theorem NRow.lt (h : NRow w A c l) {k : Nat} (hk : blk A = some k) : k < w.heap.size := (World.ownsRow.lt h k (by rw [ownBlock_slice]; exact hk)).2
theorem NRow.chg {F : Nat → Prop} (h : NRow w A c l) (hc : Chg F w w1) (hF : ∀ k, blk A = some k → ¬ F k) : NRow w1 A c l := ownsRow_chg h hc (fun k hk => hF k (by rw [ownBlock_slice] at hk; exact hk))
theorem NRow.below (h : NRow w A c l) (hb : Below w.heap.size w w1) : NRow w1 A c l := h.chg (F := fun _ => False) (.of_below hb) (fun _ _ f => f)
theorem num_cell (h : Reads w 1 A l.length (nvs l)) {k : Nat} (hk : k < l.length) : ∃ ad : Addr, A = some ad ∧ w.cell? (ad.add k) = some (.int .u64 (l[k] : Int)) := by
  obtain ⟨ad, rfl, hc⟩ := h.2 (by omega)
  exact ⟨ad, rfl, hc _ _ (nvs_get l k hk)⟩
end
theorem wpList_append_nu {w : World} {ops : Array Oper} {rest : List Oper} {o : Oper} {a : Act} {Q : Exit → Act → World → Prop} (hgd : o.guard = none) (s x : Operand)
    (ho : o.op = .call { callee := .builtin .append, args := #[s, x], argTypes := #[83, 83] })
    (A : Option Addr) (c : Nat) (ps : List Nat) (hs : a.eval s = .slice A ps.length c) (hrow : NRow w A c ps)
    (A' : Option Addr) (c' : Nat) (qs : List Nat) (m : Nat) (hm : qs.length = m) (hx : a.eval x = .slice A' m c') (hr : Reads w 1 A' m (nvs qs)) (hlen : ps.length + m ≤ 100000)
    (h : ∀ A1 c1 w1, NRow w1 A1 c1 (ps ++ qs) → Chg (fun i => blk A = some i) w w1 → (∀ k, blk A1 = some k → blk A = some k ∨ k = w.heap.size) → wpList Try.prog ops Q rest (a.put o.dst (.slice A1 (ps ++ qs).length c1)) w1) : wpList Try.prog ops Q (o :: rest) a w := by
  obtain ⟨i0, hi, hz0, hz1, hz2⟩ := info_parts info_nu
  subst hm
  refine wpList_append_any w hgd s x 83 ho 0 57 i0 _ 1 8 Try.underlying83 hi hz0 hz1 hz2 rfl (by omega) _ _ _ hs hrow A' _ c' _ hx hr (oneCell_nvs _) (by unfold maxLen; omega) (by omega) (Nat.zero_le _) ?_
  intro v' w' h1 h2 h3
  obtain ⟨A1, c1, rfl, _⟩ := own_slice h1
  rw [ownBlock_slice] at h2
  have hl : ps.length + qs.length = (ps ++ qs).length := by simp
  rw [← nvs_append, hl] at h1
  rw [hl]
  refine h A1 c1 w' h1 ⟨h2.os, h2.tape, h2.output, h2.size, fun i hi hF => h2.block i hi (fun e => hF e.symm)⟩ fun k hk => ?_
  rw [ownBlock_slice, ownBlock_slice] at h3
  rcases h3 with h3 | h3
  · exact .inl (h3 ▸ hk)
  · rw [hk] at h3; exact .inr (Option.some.inj h3)
def NumOut (w : World) (w' : World) (A : Option Addr) (c : Nat) (l : List Nat) : Prop := NRow w' A c l ∧ (∀ k, blk A = some k → w.heap.size ≤ k) ∧ Below w.heap.size w w'
theorem NumOut.nil (w : World) : NumOut w w none 0 [] := ⟨NRow.nil _, by simp [blk], Below.refl _ _⟩
theorem NumOut.keep {w w' w2 : World} {A : Option Addr} {c : Nat} {l : List Nat} (h : NumOut w w' A c l) (hb : Below w'.heap.size w' w2) : NumOut w w2 A c l := ⟨h.1.below hb, h.2.1, h.2.2.trans (hb.mono h.2.2.size)⟩
theorem NumOut.grow {w w' w1 : World} {A A1 : Option Addr} {c c1 : Nat} {ps qs : List Nat} (h : NumOut w w' A c ps) (h1 : NRow w1 A1 c1 qs) (hc : Chg (fun i => blk A = some i) w' w1) (hk : ∀ k, blk A1 = some k → blk A = some k ∨ w.heap.size ≤ k) : NumOut w w1 A1 c1 qs :=
  ⟨h1, fun k hk1 => (hk k hk1).elim (fun h2 => h.2.1 k h2) id, h.2.2.trans (hc.below (fun i hi e => by have := h.2.1 i e; omega) h.2.2.size)⟩

/-! ### an image -/
def imgFind (I : List (Nat × List ByteArray)) (e : Nat) : Option (List ByteArray) := (I.find? fun m => m.1 == e).map (·.2)
def imageL (I : List (Nat × List ByteArray)) (e : Nat) : List ByteArray := (imgFind I e).getD []
def imageE (I : List (Nat × List ByteArray)) (e : Nat) : Nat := if (imgFind I e).isSome then 0 else 10
theorem imgFind_hit (m : Nat × List ByteArray) (I : List (Nat × List ByteArray)) : imgFind (m :: I) m.1 = some m.2 := by simp [imgFind]
theorem imgFind_miss {m : Nat × List ByteArray} {e : Nat} (I : List (Nat × List ByteArray)) (h : m.1 ≠ e) : imgFind (m :: I) e = imgFind I e := by simp [imgFind, h]
theorem imgs_length (I : List IM) : (imgs I).length = I.length := by simp [imgs]
theorem imgs_drop (I : List IM) (k : Nat) : imgs (I.drop k) = (imgs I).drop k := by simp [imgs]
section
variable {w : World} {g : Nat} {A : Option Addr} {c : Nat} {T : List TR} {B : Option Addr} {d : Nat} {I : List IM}
set_option maxHeartbeats 1000000 in
set_option maxRecDepth 100000 in
theorem pastImage_any (h : PastM w g A c T B d I) (hI : I.length ≤ 90000) (hlen : ∀ m ∈ I, m.xs.length ≤ 100000) (e : Nat) :
    Calls Try.prog 57 #[.pointer (some ⟨g, 0, none⟩), .int .u64 (e : Int)] w fun x w' => ∃ A1 c1, x = .returned (.tuple #[.slice A1 (imageL (imgs I) e).length c1, .int .i64 (imageE (imgs I) e : Nat)]) ∧ StrOut w w' A1 c1 (imageL (imgs I) e) := by
  obtain ⟨c0, c9, _, _⟩ := cells2 h.cell
  have Hp := Lib.hid h.img
  have Hlen := Lib.hid hlen
  clear h hlen
  go_enter Try.func57, Try.ntmps57
  go_wp2_with fail
  go_loopw [15] (fun i wr => ∃ k : Nat, k ≤ I.length ∧ i = .int .i64 k ∧ Hid (imgFind (imgs (I.drop k)) e = imgFind (imgs I) e) ∧ Hid (Below w.heap.size w wr)) (fun i _ => I.length - (intOf i).toNat)
  case atStart => exact ⟨0, Nat.zero_le _, rfl, Lib.hid rfl, Lib.hid (Below.refl _ _)⟩
  case round =>
    obtain ⟨k, hk, rfl, HO, Hb⟩ := hrel
    by_cases hlt : k < I.length
    · have Hi := Lib.hid (Hp.out.chg (F := fun _ => False) (.of_below Hb.out) (fun _ _ f => f))
      obtain ⟨b, rfl, hb, d0, d1⟩ := Hi.out.cell hlt
      have hrow := Hi.out.lies I[k] (List.getElem_mem hlt)
      have hxl := Hlen.out I[k] (List.getElem_mem hlt)
      rw [List.drop_eq_getElem_cons hlt, show imgs (I[k] :: I.drop (k + 1)) = (I[k].e, I[k].xs) :: imgs (I.drop (k + 1)) from rfl] at HO
      generalize I[k] = m at d0 d1 hrow hxl HO
      by_cases he : m.e = e
      · subst he
        have HE := Lib.hid (show imageL (imgs I) m.e = m.xs ∧ imageE (imgs I) m.e = 0 by
          have h1 := HO.out
          rw [imgFind_hit (m.e, m.xs)] at h1
          exact ⟨by unfold imageL; rw [← h1]; rfl, by unfold imageE; rw [← h1]; rfl⟩)
        have Hb2 := Lib.hid (alloc1 wr #[.int .u64 (m.e : Int), .slice m.A m.xs.length m.c] 110).1
        have HC := Lib.hid (cloneSt_any (wr.alloc (.cells #[.int .u64 (m.e : Int), .slice m.A m.xs.length m.c] 110)) m.A m.c m.xs ((hrow.below Hb2.out).reads) (SRow.none_ hrow) hxl)
        clear hrow hxl HO
        go_wp2_with fail
        refine HC.out.mono ?_
        rintro x w2 ⟨A1, c1, rfl, h1, h2, h3⟩
        have Hout := Lib.hid (show StrOut w w2 A1 c1 m.xs from ⟨h1, fun k hk => by have := h2 k hk; have := Hb2.out.size; have := Hb.out.size; omega, (Hb.out.trans (Hb2.out.mono Hb.out.size)).trans (h3.mono (Nat.le_trans Hb.out.size Hb2.out.size))⟩)
        clear h1 h2 h3
        go_wp2_with fail
        go_ret2
        exact ⟨A1, c1, by rw [HE.out.1, HE.out.2]; rfl, by rw [HE.out.1]; exact Hout.out⟩
      · have hne : ((m.e : Int) == (e : Int)) = false := by rw [beq_eq_false_iff_ne]; omega
        have HO2 : Hid (imgFind (imgs (I.drop (k + 1))) e = imgFind (imgs I) e) := Lib.hid ((imgFind_miss (m := (m.e, m.xs)) _ he).symm.trans HO.out)
        have Hb2 := Lib.hid (Hb.out.trans ((alloc1 wr #[.int .u64 (m.e : Int), .slice m.A m.xs.length m.c] 110).1.mono Hb.out.size))
        clear hrow hxl HO he
        go_wp2_with fail
        case roundEnd =>
          exact ⟨⟨k + 1, by omega, by push_cast; rfl, HO2, Hb2⟩, by simp only [intOf]; omega⟩
    · obtain rfl : k = I.length := by omega
      have HE := Lib.hid (show imageL (imgs I) e = [] ∧ imageE (imgs I) e = 10 by
        have h1 := HO.out
        rw [List.drop_length] at h1
        have h1 : imgFind (imgs I) e = none := h1.symm
        exact ⟨by unfold imageL; rw [h1]; rfl, by unfold imageE; rw [h1]; rfl⟩)
      go_wp2_with fail
      go_ret2
      exact ⟨none, 0, by rw [HE.out.1, HE.out.2]; rfl, by rw [HE.out.1]; exact ⟨SRow.nil _, by simp [blk], Hb.out⟩⟩

set_option maxHeartbeats 1000000 in
set_option maxRecDepth 100000 in
theorem pastEpochs_any (h : PastM w g A c T B d I) (hI : I.length ≤ 90000) :
    Calls Try.prog 61 #[.pointer (some ⟨g, 0, none⟩)] w fun x w' => ∃ A1 c1, x = .returned (.slice A1 (imgs I).length c1) ∧ NumOut w w' A1 c1 ((imgs I).map (·.1)) := by
  obtain ⟨c0, c9, _, _⟩ := cells2 h.cell
  have Hp := Lib.hid h.img
  clear h
  go_enter Try.func61, Try.ntmps61
  go_wp2_with fail
  go_loopw [3, 13] (fun v i wr => ∃ (k : Nat) (A1 : Option Addr) (c1 : Nat) (ps : List Nat), k ≤ I.length ∧ v = .slice A1 ps.length c1 ∧ i = .int .i64 k ∧ Hid (ps = ((imgs I).map (·.1)).take k ∧ ps.length = k) ∧ Hid (NumOut w wr A1 c1 ps)) (fun _ i _ => I.length - (intOf i).toNat)
  case atStart => exact ⟨0, none, 0, [], Nat.zero_le _, rfl, rfl, Lib.hid ⟨rfl, rfl⟩, Lib.hid (NumOut.nil _)⟩
  case round =>
    obtain ⟨k, A1, c1, ps, hk, rfl, rfl, HO, HP⟩ := hrel
    by_cases hlt : k < I.length
    · have Hi := Hp.out.chg (F := fun _ => False) (.of_below HP.out.2.2) (fun _ _ f => f)
      obtain ⟨b, rfl, hb, d0, d1⟩ := Hi.cell hlt
      have HO2 : Hid (ps ++ [I[k].e] = ((imgs I).map (·.1)).take (k + 1)) := Lib.hid (by rw [HO.out.1, List.take_succ_eq_append_getElem (by rw [List.length_map, imgs_length]; exact hlt)]; simp [imgs])
      clear Hi
      generalize I[k] = m at d0 d1 HO2
      obtain ⟨hb2, hg2, hg3, hs2⟩ := alloc2 wr #[.int .u64 (m.e : Int), .slice m.A m.xs.length m.c] 110 #[.int .u64 (m.e : Int)] 57
      have HX := Lib.hid (HP.out.keep hb2)
      have HR := Lib.hid (show Reads _ 1 _ 1 (nvs [m.e]) from Reads.of_block (n := 1) (sz := 1) hg3 rfl)
      have Hlen := Lib.hid (show ps.length + 1 ≤ 100000 by have := HO.out.2; omega)
      have Hs2 := Lib.hid hs2
      clear hb2 hg2 hg3 hs2
      go_wp2_with (at_builtin; refine wpList_append_nu rfl (.tmp 17) (.tmp 20) rfl A1 c1 ps rfl HX.out.1 (some ⟨wr.heap.size + 1, 0, none⟩) 1 [m.e] 1 rfl rfl HR.out Hlen.out ?_)
      intro A2 c2 w2 hrow hchg hblk
      have Hout := Lib.hid (HX.out.grow hrow hchg (fun k hk => by
        rcases hblk k hk with h | h
        · exact .inl h
        · right; have := HP.out.2.2.size; omega))
      clear hrow hchg hblk d0 d1
      go_wp2_with fail
      case roundEnd =>
        exact ⟨⟨k + 1, A2, c2, ps ++ [m.e], by omega, by simp, by push_cast; rfl, Lib.hid ⟨HO2.out, by simp [HO.out.2]⟩, Hout⟩, by simp only [intOf]; omega⟩
    · obtain rfl : k = I.length := by omega
      have HF : Hid (ps = (imgs I).map (·.1)) := Lib.hid (by rw [HO.out.1, List.take_of_length_le]; simp [imgs])
      go_wp2_with fail
      go_ret
      exact ⟨A1, c1, by rw [HF.out]; simp, by rw [← HF.out]; exact HP.out⟩
end
end Go.Proofs.Ytiolfnnkkflaiaa
