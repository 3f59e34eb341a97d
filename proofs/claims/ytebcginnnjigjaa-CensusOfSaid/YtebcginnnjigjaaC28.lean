import Derived.Test.YtebcginnnjigjaaC26
import Derived.Test.YtebcginnnjigjaaC11
import Derived.Test.YtebcginnnjigjaaC5
section
/- Numbers collected, and sorted. -/
open Go.RowKit Go.Shelf Go.Maps
namespace Go.Proofs.Ytebcginnnjigjaa

def us (l : List Int) : List Value := l.map (Value.int .u64)
theorem us_len (l : List Int) : (us l).length = l.length := by simp [us]
theorem us_append (a b : List Int) : us (a ++ b) = us a ++ us b := by simp [us]
theorem us_get (l : List Int) (k : Nat) (hk : k < l.length) : (us l)[k]? = some (.int .u64 l[k]) := by simp [us, hk]
theorem oneCell_us (l : List Int) : ∀ u ∈ us l, u.oneCell' = true := by
  intro u hu
  simp only [us, List.mem_map] at hu
  obtain ⟨s, _, rfl⟩ := hu
  rfl
theorem info_u64 : (Try.prog.info? 44).map (fun i => (i.zero, i.size, i.bytes)) = some (some (.int .u64 0), 1, 8) := by kernel_rfl
/-- A row of numbers of its own. -/
def KRow (w : World) (A : Option Addr) (c : Nat) (l : List Int) : Prop := w.ownsRow 0 44 1 (.slice A l.length c) l.length (us l)
section
variable {w w1 : World} {A : Option Addr} {c : Nat} {l : List Int}
theorem KRow.nil (w : World) : KRow w none 0 [] := own_nil w 0 _ 1
theorem KRow.reads (h : KRow w A c l) : Reads w 1 A l.length (us l) := Reads.of_own h
theorem KRow.lt (h : KRow w A c l) {k : Nat} (hk : blk A = some k) : k < w.heap.size := (World.ownsRow.lt h k (by rw [ownBlock_slice]; exact hk)).2
theorem KRow.chg {F : Nat → Prop} (h : KRow w A c l) (hc : Chg F w w1) (hF : ∀ k, blk A = some k → ¬ F k) : KRow w1 A c l := ownsRow_chg h hc (fun k hk => hF k (by rw [ownBlock_slice] at hk; exact hk))
theorem KRow.below (h : KRow w A c l) (hb : Below w.heap.size w w1) : KRow w1 A c l := h.chg (F := fun _ => False) (.of_below hb) (fun _ _ f => f)
theorem KRow.block (h : KRow w A c l) {k : Nat} (hk : blk A = some k) : ∃ cs f, w.heap[k]? = some (.cells cs 44 f) := by
  rcases h.2 with ⟨hn, _⟩ | ⟨g, cap, cur, hv, _, hg, _⟩
  · injection hn with h1; subst h1; simp [blk] at hk
  · injection hv with h1; subst h1
    have e1 : g = k := by simpa [blk] using hk
    subst e1
    exact ⟨_, _, hg⟩
theorem KRow.keep (h : KRow w A c l) (hk : ∀ (k : Nat) (o : Obj), w.heap[k]? = some o → o.isWalk = false → w1.heap[k]? = some o) : KRow w1 A c l := by
  refine ⟨h.1, ?_⟩
  rcases h.2 with h2 | ⟨g, cap, cur, hv, h1, h2, h3⟩
  · exact .inl h2
  · exact .inr ⟨g, cap, cur, hv, h1, hk _ _ h2 rfl, h3⟩
theorem KRow.putObj (h : KRow w A c l) {b : Nat} {o : Obj} (hb : w.heap[b]? = some o) (ho : o.isCells = false) (o' : Obj) : KRow (w.putObj b o') A c l := by
  refine ⟨h.1, ?_⟩
  rcases h.2 with h2 | ⟨g, cap, cur, hv, h1, h2, h3⟩
  · exact .inl h2
  · refine .inr ⟨g, cap, cur, hv, h1, (World.putObj_heap_other (fun e => ?_)).trans h2, h3⟩
    subst e
    rw [hb] at h2
    injection h2 with h2
    subst h2
    cases ho
theorem num_cell (h : Reads w 1 A l.length (us l)) {k : Nat} (hk : k < l.length) : ∃ ad : Addr, A = some ad ∧ w.cell? (ad.add k) = some (.int .u64 l[k]) := by
  obtain ⟨ad, rfl, hc⟩ := h.2 (by omega)
  exact ⟨ad, rfl, hc _ _ (us_get l k hk)⟩
end
theorem wpList_append_us {w : World} {ops : Array Oper} {rest : List Oper} {o : Oper} {a : Act} {Q : Exit → Act → World → Prop} (hgd : o.guard = none) (s x : Operand)
    (ho : o.op = .call { callee := .builtin .append, args := #[s, x], argTypes := #[41, 41] })
    (A : Option Addr) (c : Nat) (ps : List Int) (hs : a.eval s = .slice A ps.length c) (hrow : KRow w A c ps)
    (A' : Option Addr) (c' : Nat) (qs : List Int) (m : Nat) (hm : qs.length = m) (hx : a.eval x = .slice A' m c') (hr : Reads w 1 A' m (us qs)) (hlen : ps.length + m ≤ 100000)
    (h : ∀ A1 c1 w1, KRow w1 A1 c1 (ps ++ qs) → Chg (fun i => blk A = some i) w w1 → (∀ k, blk A1 = some k → blk A = some k ∨ k = w.heap.size) → wpList Try.prog ops Q rest (a.put o.dst (.slice A1 (ps.length + m) c1)) w1) : wpList Try.prog ops Q (o :: rest) a w := by
  obtain ⟨i0, hi, hz0, hz1, hz2⟩ := info_parts info_u64
  subst hm
  refine wpList_append_any w hgd s x 41 ho 0 44 i0 _ 1 8 Try.underlying41 hi hz0 hz1 hz2 rfl (by omega) _ _ _ hs hrow A' _ c' _ hx hr (oneCell_us _) (by unfold maxLen; omega) (by omega) (Nat.zero_le _) ?_
  intro v' w' h1 h2 h3
  obtain ⟨A1, c1, rfl, _⟩ := own_slice h1
  rw [ownBlock_slice] at h2
  have hl : ps.length + qs.length = (ps ++ qs).length := by simp
  refine h A1 c1 w' (by unfold KRow; rw [← hl, us_append]; exact h1) ⟨h2.os, h2.tape, h2.output, h2.size, fun i hi hF => h2.block i hi (fun e => hF e.symm)⟩ fun k hk => ?_
  rw [ownBlock_slice, ownBlock_slice] at h3
  rcases h3 with h3 | h3
  · exact .inl (h3 ▸ hk)
  · rw [hk] at h3; exact .inr (Option.some.inj h3)

def okU (l pre : List Int) (x : Int) : Prop := x ∈ l ∧ pre.length + 1 ≤ l.length
def finU (l ys : List Int) : Prop := ys.Pairwise (· ≠ ·) ∧ (∀ x : Int, x ∈ ys ↔ x ∈ l) ∧ ys.length ≤ l.length
/-- Between two keys: the box of what is collected. -/
structure AsI (w : World) (pre : List Int) (W : World) : Prop where
  b : Below w.heap.size w W
  lt : w.heap.size < W.heap.size
  row : ∃ A c, W.heap[w.heap.size]? = some (.cells #[.slice A pre.length c] 41 (0, 0)) ∧ KRow W A c pre ∧ (∀ k, blk A = some k → w.heap.size < k)
section
variable {w : World} {pre : List Int} {W : World}
theorem AsI.ab (h : AsI w pre W) {W0 W' : World} (hs : w.heap.size < W0.heap.size) (hab : AbM W0 W W') : AsI w pre W' := by
  obtain ⟨A, c, h1, h2, h3⟩ := h.row
  exact ⟨h.b.trans (hab.1.mono (by omega)), Nat.lt_of_lt_of_le h.lt hab.1.size, A, c, hab.2 _ _ h1 rfl, h2.keep hab.2, h3⟩
theorem AsI.obj (h : AsI w pre W) {b : Nat} {o : Obj} (hl : w.heap.size < b) (ho : W.heap[b]? = some o) (hc : o.isCells = false) (o' : Obj) : AsI w pre (W.putObj b o') := by
  obtain ⟨A, c, h1, h2, h3⟩ := h.row
  exact ⟨below_putObj h.b (by omega) (Array.getElem?_eq_some_iff.1 ho).1 o', by rw [World.putObj_size]; exact h.lt, A, c, (World.putObj_heap_other (by omega)).trans h1, h2.putObj ho hc o', h3⟩
theorem AsI.alloc (h : AsI w pre W) (o : Obj) : AsI w pre (W.alloc o) := by
  obtain ⟨A, c, h1, h2, h3⟩ := h.row
  exact ⟨h.b.alloc h.b.size _, by rw [size_alloc]; have := h.lt; omega, A, c, (heap_alloc_old _ _ (Array.getElem?_eq_some_iff.1 h1).1).trans h1, h2.below ((Below.refl _ _).alloc (Nat.le_refl _) _), h3⟩
end
set_option maxHeartbeats 4000000 in
set_option maxRecDepth 100000 in
theorem appendSeq_any (bi : Nat) (l : List Int) (w : World) (hbi : bi < w.heap.size) (hl : l.length ≤ 10000)
    (hseq : ∀ w0, Below w.heap.size w w0 → SeqE Try.prog 50 #[.pointer (some ⟨bi, 0, none⟩)] (fun x : Int => #[.int .u64 x]) (KpM bi) AbM (okU l) (finU l) w0) :
    Calls Try.prog 74 #[.slice none 0 0, .func (.func 50) #[] #[.pointer (some ⟨bi, 0, none⟩)]] w fun e w' =>
      ∃ ys A c, finU l ys ∧ e = .returned (.slice A ys.length c) ∧ KRow w' A c ys ∧ (∀ k, blk A = some k → w.heap.size ≤ k) ∧ Below w.heap.size w w' := by
  obtain ⟨hb1, hg1, hs1⟩ := alloc1 w #[.slice none 0 0] 41
  have HSq := Lib.hid (hseq _ hb1)
  have HI : Hid (AsI w [] (w.alloc (.cells #[.slice none 0 0] 41))) := Lib.hid ⟨hb1, by rw [hs1]; omega, none, 0, hg1, KRow.nil _, by simp [blk]⟩
  clear hseq hb1 hg1
  refine calls_of_marks Try.func74 rfl ?_
  simp only [Try.ntmps74, List.size_toArray, List.length_cons, List.length_nil, Nat.reduceAdd, Nat.reduceSub, Array.replicate_succ, Array.replicate_zero, List.push_toArray, List.append_toArray, List.nil_append, List.cons_append]
  go_wp2_with fail
  generalize w.alloc (.cells #[.slice none 0 0] 41) = w1 at HSq HI hs1 ⊢
  have HS1 := Lib.hid hs1
  clear hs1
  refine wp_rangeE (gf := 50) (lb := #[.pointer (some ⟨bi, 0, none⟩)]) rfl (enters_of Try.func50 (by kernel_rfl) rfl) HSq.out (Below.refl _ _) (fun _ => rfl) KpM.trans
    (fun W l o o' hl ho _ hw => ⟨KeepsWalks.putObj o' ho hw, World.putObj_heap_other (by have := HS1.out; omega)⟩)
    (fun W1 A B hs hab k hk => hab.1.block k (by omega))
    (fun pre W => AsI w pre W)
    (fun pre W1 A B hs h hab => h.ab (by have := HS1.out; omega) hab)
    (fun pre W l o o' h hl ho hc => h.obj (by have := HS1.out; omega) ho hc o')
    (fun pre W o h _ _ => h.alloc o)
    HI.out (fun x => { tmps := #[.slice none 0 0, .func (.func 50) #[] #[.pointer (some ⟨bi, 0, none⟩)], .pointer (some ⟨w.heap.size, 0, none⟩), undef, .slice none 0 0, .int .u64 x, .func (.func 50) #[] #[.pointer (some ⟨bi, 0, none⟩)], .int .u64 x, undef, undef, undef, undef, undef], defers := [] }) ?assign ?body ?done
  case assign =>
    intro l x W K hK
    refine wpIn_round_list (not_letsOut_then (fun ⟨_, _, h⟩ => h)) (by kernel_rfl) ?_
    go_wp2_with fail
    exact hK
  case body =>
    rintro lp pre x W hi hok
    obtain ⟨A, c, h1, h2, h3⟩ := hi.row
    obtain ⟨c0, _⟩ := cells1 h1
    obtain ⟨hb2, hg2, hs2⟩ := alloc1 W #[.int .u64 x] 44
    have HB := Lib.hid hi.b
    have HLt := Lib.hid hi.lt
    have H1 := Lib.hid h1
    have H2 := Lib.hid h2
    have H3 := Lib.hid h3
    have HX := Lib.hid (And.intro (h2.below hb2) (show Reads (W.alloc (.cells #[.int .u64 x] 44)) 1 (some ⟨W.heap.size, 0, none⟩) 1 (us [x]) from Reads.of_block (n := 1) hg2 rfl))
    have HLn := Lib.hid (show pre.length + 1 ≤ 100000 from by have := hok.2; omega)
    clear hi h1 h2 h3 hb2 hg2 hs2 hok
    apply wpIn_block
    refine wpIn_round_list (not_letsOut_block postR_out) (by kernel_rfl) ?_
    go_wp2_with (at_builtin; refine wpList_append_us rfl (.tmp 8) (.tmp 10) rfl A c pre rfl HX.out.1 (some ⟨W.heap.size, 0, none⟩) 1 [x] 1 rfl rfl HX.out.2 HLn.out ?_)
    intro A7 c7 w7 hrow hchg hblk
    have hC : Chg (fun i => blk A = some i) W w7 := ((Chg.refl (fun i => blk A = some i) W).alloc _).trans hchg (fun _ _ h => h)
    have h7 := (hC.block _ (Array.getElem?_eq_some_iff.1 H1.out).1 (fun e => by have := H3.out _ e; omega)).trans H1.out
    obtain ⟨e7, f7⟩ := cells1 h7
    have H7 := Lib.hid h7
    have HC := Lib.hid hC
    have HR7 := Lib.hid hrow
    have HA7 := Lib.hid (show ∀ k, blk A7 = some k → w.heap.size < k from fun k hk => by
      rcases hblk k hk with h | h
      · exact H3.out k h
      · have := HLt.out; omega)
    clear h7 hrow hchg hblk hC c0
    go_wp2_with fail
    have hcells : ∀ (k : Nat) (o : Obj), W.heap[k]? = some o → o.isCells = false → w7.heap[k]? = some o := fun k o hk ho => (HC.out.block k (Array.getElem?_eq_some_iff.1 hk).1 (fun e => by
      obtain ⟨cs, f, hg⟩ := H2.out.block e
      rw [hk] at hg
      injection hg with hg
      subst hg
      cases ho)).trans hk
    have hcells2 : ∀ (k : Nat) (o : Obj), W.heap[k]? = some o → o.isCells = false → (w7.setCell ⟨w.heap.size, 0, none⟩ (.slice A7 (pre.length + 1) c7)).heap[k]? = some o := fun k o hk ho => (KeepsOthers.setCell _ _ _).same _ _ (hcells k o hk ho) ho
    have hsz : W.heap.size ≤ (w7.setCell ⟨w.heap.size, 0, none⟩ (.slice A7 (pre.length + 1) c7)).heap.size := by rw [size_set]; exact HC.out.size
    refine ⟨⟨hsz, fun k o _ hk ho => hcells2 k o hk ho⟩, ⟨⟨hsz, fun k o hk ho => hcells2 k o hk (Obj.not_cells_of_walk ho)⟩, ?_⟩, ?_⟩
    · have hlt := HLt.out
      rw [Below.heap_setCell w7 ⟨w.heap.size, 0, none⟩ _ bi (by show bi ≠ w.heap.size; omega), HC.out.block bi (by omega) (fun e => by have := H3.out _ e; omega)]
    · show AsI w _ _
      refine ⟨(HB.out.trans (HC.out.below (fun i hi e => by have := H3.out i e; omega) HB.out.size)).setCell (p := ⟨w.heap.size, 0, none⟩) (Nat.le_refl _) _, by have := HLt.out; omega, A7, c7, ?_, HR7.out.chg (F := fun i => i = w.heap.size) ((Chg.refl _ _).set _ 0 _ (fun _ => rfl)) (fun k hk e => by have := HA7.out k hk; omega), HA7.out⟩
      rw [List.length_append, List.length_singleton]
      exact heap_setCell_same w7 w.heap.size 0 _ _ (.slice A7 (pre.length + 1) c7) H7.out
  case done =>
    rintro ys D W hys hD hi hK
    obtain ⟨A, c, h1, h2, h3⟩ := hi.row
    obtain ⟨c0, _⟩ := cells1 h1
    have H2 := Lib.hid h2
    have H3 := Lib.hid h3
    have HB := Lib.hid hi.b
    have HK := Lib.hid hK
    have HY := Lib.hid hys
    have HD := Lib.hid (show w.heap.size ≤ D from by have := HS1.out; omega)
    clear hi h1 h2 h3 hK hD hys
    go_wp2_with fail
    refine bodyPostM_mark HK.out (results_tmp rfl _ _ _) ⟨ys, A, c, HY.out, rfl, H2.out.putObj HK.out rfl _, fun k hk => by have := H3.out k hk; omega, below_putObj HB.out HD.out (Array.getElem?_eq_some_iff.1 HK.out).1 _⟩
theorem collect_any (bi : Nat) (l : List Int) (w : World) (hbi : bi < w.heap.size) (hl : l.length ≤ 10000)
    (hseq : ∀ w0, Below w.heap.size w w0 → SeqE Try.prog 50 #[.pointer (some ⟨bi, 0, none⟩)] (fun x : Int => #[.int .u64 x]) (KpM bi) AbM (okU l) (finU l) w0) :
    Calls Try.prog 48 #[.func (.func 50) #[] #[.pointer (some ⟨bi, 0, none⟩)]] w fun e w' =>
      ∃ ys A c, finU l ys ∧ e = .returned (.slice A ys.length c) ∧ KRow w' A c ys ∧ (∀ k, blk A = some k → w.heap.size ≤ k) ∧ Below w.heap.size w w' := by
  have HA := Lib.hid (appendSeq_any bi l w hbi hl hseq)
  clear hseq
  go_enter Try.func48, Try.ntmps48
  go_wp2_with fail
  refine HA.out.mono ?_
  rintro e w1 ⟨ys, A, c, hy, rfl, hr⟩
  have HY := Lib.hid hy
  have HR := Lib.hid hr
  clear hy hr
  go_wp2_with fail
  go_ret
  exact ⟨ys, A, c, HY.out, rfl, HR.out⟩
/-- What the library's sort does, to rows of at most n numbers. -/
def SortsTo (n : Nat) : Prop := ∀ (W : World) (A : Option Addr) (c : Nat) (l : List Int), l.length ≤ n → KRow W A c l → Calls Try.prog 49 #[.slice A l.length c] W fun e W' => e = .returned (.tuple #[]) ∧ ∃ ss : List Int, ss.Perm l ∧ ss.Pairwise (· ≤ ·) ∧ KRow W' A c ss ∧ Chg (fun i => blk A = some i) W W'
theorem sorted_any (n : Nat) (hsort : SortsTo n) (bi : Nat) (l : List Int) (w : World) (hbi : bi < w.heap.size) (hl : l.length ≤ 10000) (hn : ∀ ys, finU l ys → ys.length ≤ n)
    (hseq : ∀ w0, Below w.heap.size w w0 → SeqE Try.prog 50 #[.pointer (some ⟨bi, 0, none⟩)] (fun x : Int => #[.int .u64 x]) (KpM bi) AbM (okU l) (finU l) w0) :
    Calls Try.prog 29 #[.func (.func 50) #[] #[.pointer (some ⟨bi, 0, none⟩)]] w fun e w' =>
      ∃ ss A c, finU l ss ∧ ss.Pairwise (· ≤ ·) ∧ e = .returned (.slice A ss.length c) ∧ KRow w' A c ss ∧ (∀ k, blk A = some k → w.heap.size ≤ k) ∧ Below w.heap.size w w' := by
  have HA := Lib.hid (collect_any bi l w hbi hl hseq)
  clear hseq
  go_enter Try.func29, Try.ntmps29
  go_wp2_with fail
  refine HA.out.mono ?_
  rintro e w1 ⟨ys, A, c, hy, rfl, hr, hk, hb⟩
  have HS := Lib.hid (hsort w1 A c ys (hn ys hy) hr)
  have HY := Lib.hid hy
  have HK := Lib.hid hk
  have HB := Lib.hid hb
  clear hy hr hk hb
  go_wp2_with fail
  refine HS.out.mono ?_
  rintro e w2 ⟨rfl, ss, hp, hs, hr, hc⟩
  have HP := Lib.hid hp
  have HS2 := Lib.hid hs
  have HR := Lib.hid hr
  have HLn := Lib.hid hp.length_eq
  have HB2 := Lib.hid (HB.out.trans (hc.below (fun i hi e => by have := HK.out i e; omega) HB.out.size))
  clear hp hs hr hc HS
  go_wp2_with fail
  go_ret
  refine ⟨ss, A, c, ⟨(HP.out.pairwise_iff (fun {_ _} h => Ne.symm h)).2 HY.out.1, fun x => (HP.out.mem_iff).trans (HY.out.2.1 x), by rw [HLn.out]; exact HY.out.2.2⟩, HS2.out, by rw [HLn.out]; rfl, HR.out, HK.out, HB2.out⟩
end Go.Proofs.Ytebcginnnjigjaa

end
section
/- Lists of numbers compared. -/
open Go.RowKit Go.Shelf
namespace Go.Proofs.Ytebcginnnjigjaa
theorem KRow.form {w : World} {A : Option Addr} {c : Nat} {l : List Int} (h : KRow w A c l) (h0 : 0 < l.length) : ∃ g, A = some ⟨g, 0, none⟩ ∧ g < w.heap.size := by
  obtain ⟨g, cap, hv, _, hlt⟩ := World.ownsRow.form h h0
  injection hv with hA
  exact ⟨g, hA, hlt⟩
theorem KRow.cell {w : World} {g c : Nat} {l : List Int} (h : KRow w (some ⟨g, 0, none⟩) c l) {k : Nat} (hk : k < l.length) : w.cell? ⟨g, k, none⟩ = some (.int .u64 l[k]) := by
  rw [World.ownsRow.cellAt h k (by omega)]
  exact us_get l k hk
set_option maxHeartbeats 4000000 in
set_option maxRecDepth 100000 in
theorem numbers_any (w : World) (A B : Option Addr) (c d : Nat) (l : List Int) (h1 : KRow w A c l) (h2 : KRow w B d l) (hl : l.length ≤ 1000) :
    Calls Try.prog 13 #[.slice A l.length c, .slice B l.length d] w fun e w' => e = .returned (.bool true) ∧ Below w.heap.size w w' := by
  have H1 := Lib.hid h1
  have H2 := Lib.hid h2
  clear h1 h2
  go_enter Try.func13, Try.ntmps13
  go_wp2_with fail
  go_loopw [5] (fun i wr => ∃ k : Nat, k ≤ l.length ∧ i = .int .i64 k ∧ Hid (Below w.heap.size w wr)) (fun i _ => l.length - (intOf i).toNat)
  case atStart => exact ⟨0, Nat.zero_le _, rfl, Lib.hid (Below.refl _ _)⟩
  case round =>
    obtain ⟨k, hk, rfl, Hb⟩ := hrel
    by_cases hlt : k < l.length
    · have g1 := H1.out.below Hb.out
      have g2 := H2.out.below Hb.out
      obtain ⟨a, hA, _⟩ := g1.form (by omega)
      subst hA
      obtain ⟨b, hB, _⟩ := g2.form (by omega)
      subst hB
      have a0 := g1.cell hlt
      have b0 := g2.cell hlt
      generalize l[k] = x at a0 b0
      clear g1 g2
      go_wp2_with fail
      have s0 := fun w' (hk : KeepsBut [] wr.drew w') => hk.cell (p := ⟨a, k, none⟩) a0 (by simp)
      have t0 := fun w' (hk : KeepsBut [] wr.drew w') => hk.cell (p := ⟨b, k, none⟩) b0 (by simp)
      have HB2 := Lib.hid (show Below w.heap.size w wr.drew from Hb.out.drew)
      clear a0 b0
      refine wp_region_mix3 (KeepsBut []) (KeepsBut.refl []) (KeepsBut.trans []) [] [(0, 0), (0, 1), (0, 2), (0, 4), (0, 5), (0, 6), (1, 3), (1, 7), (0, 8)] (by kernel_rfl) (by kernel_rfl) (fun d _ _ _ _ h => by cases d <;> exact h) ?_
      generalize wr.drew = w2 at HB2 s0 t0 ⊢
      repeat ((first | (refine mix3_free (v := ?_) rfl rfl ?_ (mix3_norm (a' := ?_) ?_ ?_); rotate_left; focus (intro w'; go_simp; first | done | (with_reducible rfl))) | (refine mix3_pure (v := ?_) rfl rfl ?_ (mix3_norm (a' := ?_) ?_ ?_); rotate_left; focus (intro w' hR; go_simp; first | done | (with_reducible rfl))) | refine mix3_freeOff rfl rfl (mix3_norm (a' := ?_) ?_ ?_) | refine mix3_off rfl rfl (mix3_norm (a' := ?_) ?_ ?_)); rotate_left; focus (simp only [Act.put, List.getElem_toArray, List.getElem_cons_zero, List.getElem_cons_succ, List.setIfInBounds_toArray, List.set_cons_zero, List.set_cons_succ]; rfl))
      refine mix3_done ?_
      go_wp2_with fail
      case roundEnd =>
        exact ⟨⟨k + 1, by omega, by push_cast; rfl, HB2⟩, by simp only [intOf]; omega⟩
    · have hke : k = l.length := by omega
      subst hke
      go_wp2_with fail
      go_ret
      exact ⟨rfl, Hb.out⟩
end Go.Proofs.Ytebcginnnjigjaa

end
section
/- Rising lists of numbers; a number set in; the slices that part a row of numbers. -/
open Go.RowKit Go.Shelf
namespace Go.Proofs.Ytebcginnnjigjaa

def Ris (ys : List Int) : Prop := ys.Pairwise (· < ·)
theorem ris_ext : ∀ a b : List Int, Ris a → Ris b → (∀ x : Int, x ∈ a ↔ x ∈ b) → a = b
  | [], [], _, _, _ => rfl
  | [], y :: b, _, _, h => absurd ((h y).2 (List.mem_cons_self ..)) (by simp)
  | x :: a, [], _, _, h => absurd ((h x).1 (List.mem_cons_self ..)) (by simp)
  | x :: a, y :: b, ha, hb, h => by
    obtain ⟨ha1, ha2⟩ := List.pairwise_cons.1 ha
    obtain ⟨hb1, hb2⟩ := List.pairwise_cons.1 hb
    have hxy : x = y := by
      rcases List.mem_cons.1 ((h x).1 (List.mem_cons_self ..)) with e | e
      · exact e
      · rcases List.mem_cons.1 ((h y).2 (List.mem_cons_self ..)) with e2 | e2
        · exact e2.symm
        · have := hb1 x e; have := ha1 y e2; omega
    subst hxy
    rw [ris_ext a b ha2 hb2 (fun z => ⟨fun hz => ?_, fun hz => ?_⟩)]
    · rcases List.mem_cons.1 ((h z).1 (List.mem_cons_of_mem _ hz)) with e | e
      · have := ha1 z hz; omega
      · exact e
    · rcases List.mem_cons.1 ((h z).2 (List.mem_cons_of_mem _ hz)) with e | e
      · have := hb1 z hz; omega
      · exact e
theorem ris_of {ys : List Int} (h1 : ys.Pairwise (· ≠ ·)) (h2 : ys.Pairwise (· ≤ ·)) : Ris ys :=
  (h1.and h2).imp fun ⟨a, b⟩ => by omega
theorem ris_get {ys : List Int} (h : Ris ys) {i j : Nat} (hij : i < j) (hj : j < ys.length) : ys[i]'(by omega) < ys[j] := List.pairwise_iff_getElem.1 h i j (by omega) hj hij
/-- A number set in ahead of the first that is not less. -/
theorem ins_ris {ys : List Int} (h : Ris ys) {k : Nat} (hk : k ≤ ys.length) {x : Int} (h1 : ∀ j (hj : j < ys.length), j < k → ys[j] < x) (h2 : ∀ hk : k < ys.length, x < ys[k]) :
    Ris (ys.take k ++ [x] ++ ys.drop k) := by
  have hgt : ∀ y ∈ ys.drop k, x < y := fun y hy => by
    obtain ⟨j, hj, rfl⟩ := List.mem_iff_getElem.1 hy
    rw [List.length_drop] at hj
    rw [List.getElem_drop]
    have hkk : k < ys.length := by omega
    have h3 := h2 hkk
    by_cases h0 : j = 0
    · subst h0; simpa using h3
    · have := ris_get h (i := k) (j := k + j) (by omega) (by omega); omega
  have hlt : ∀ y ∈ ys.take k, y < x := fun y hy => by
    obtain ⟨j, hj, rfl⟩ := List.mem_iff_getElem.1 hy
    rw [List.length_take] at hj
    rw [List.getElem_take]
    exact h1 j (by omega) (by omega)
  have hbig := h
  rw [Ris, ← List.take_append_drop k ys, List.pairwise_append] at hbig
  obtain ⟨p1, p2, p3⟩ := hbig
  refine List.pairwise_append.2 ⟨List.pairwise_append.2 ⟨p1, List.pairwise_singleton .., fun a ha b hb => ?_⟩, p2, fun a ha b hb => ?_⟩
  · rw [List.mem_singleton] at hb; subst hb; exact hlt a ha
  · rcases List.mem_append.1 ha with h4 | h4
    · exact p3 a h4 b hb
    · rw [List.mem_singleton] at h4; subst h4; exact hgt b hb
theorem ins_mem (ys : List Int) (k : Nat) (x z : Int) : z ∈ ys.take k ++ [x] ++ ys.drop k ↔ z ∈ ys ∨ z = x := by
  have h : z ∈ ys ↔ z ∈ ys.take k ∨ z ∈ ys.drop k := by rw [← List.mem_append, List.take_append_drop]
  rw [h, List.mem_append, List.mem_append, List.mem_singleton]
  constructor
  · rintro ((a | a) | a)
    · exact .inl (.inl a)
    · exact .inr a
    · exact .inl (.inr a)
  · rintro ((a | a) | a)
    · exact .inl (.inl a)
    · exact .inr a
    · exact .inl (.inr a)
theorem KRow.cap {w : World} {A : Option Addr} {c : Nat} {ys : List Int} (h : KRow w A c ys) : ys.length ≤ c := by
  obtain ⟨A', c', he, hc⟩ := own_slice h
  injection he with _ _ h3
  subst h3; exact hc
theorem us_take (l : List Int) (k : Nat) : (us l).take k = us (l.take k) := by simp [us, List.map_take]
theorem us_drop (l : List Int) (k : Nat) : (us l).drop k = us (l.drop k) := by simp [us, List.map_drop]
/-- The slices that part a row. -/
theorem cuts_us (w : World) (A : Option Addr) (c : Nat) (ys : List Int) (k : Nat) (hk : k ≤ ys.length) (h : KRow w A c ys) :
    (∀ W : World, (Instr.slice 41 (.slice A ys.length c) none (some (.int .i64 (k : Int))) none).run Try.prog W = .ok (.slice A k c) W) ∧
    ∃ A' : Option Addr, (∀ W : World, (Instr.slice 41 (.slice A ys.length c) (some (.int .i64 (k : Int))) none none).run Try.prog W = .ok (.slice A' (ys.length - k) (c - k)) W) ∧
      Reads w 1 A k (us (ys.take k)) ∧ Reads w 1 A' (ys.length - k) (us (ys.drop k)) := by
  have hcap := h.cap
  obtain ⟨i0, hi, hz0, hz1, hz2⟩ := info_parts info_u64
  have hel : Try.prog.elem 41 = 44 := by simp [Program.elem, Try.underlying41]
  have hu : Try.prog.underlying 41 = some (.slice (Try.prog.elem 41)) := by rw [hel]; exact Try.underlying41
  have s2 := cut_to (P := Try.prog) 41 44 Try.underlying41 hi 1 A ys.length c k hk hcap
  refine ⟨s2.1, if c = k then A else A.map (·.add (k * 1)), fun W => ?_, ?_, ?_⟩
  · rw [run_slice_l W 41 _ _ c hu .i64 (k : Int) (by omega) (by omega), hel, Int.toNat_natCast]
    simp [sizeOf, typeInfo, hi, hz1, sliced, Result.andThen]
  · have := s2.2 w _ h.reads
    rw [Nat.mul_one, us_take] at this
    exact this
  · have := h.reads.drop_ (lo := k) hk hcap
    rw [Nat.mul_one, us_drop] at this
    rw [Nat.mul_one]
    exact this
end Go.Proofs.Ytebcginnnjigjaa

end
