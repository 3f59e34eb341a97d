/- Arks: how many runs. -/
import Derived.Test.YtcahflddafdhfaaArk1
open Go.RowKit Go.Shelf
namespace Go.Proofs.Ytcahflddafdhfaa

theorem reads_same {w W : World} {sz n : Nat} {A : Option Addr} {xs : List Value} (h : Reads w sz A n xs) (hs : SameTo w.heap.size w W) : Reads W sz A n xs :=
  h.keep fun p u hp => by
    rw [← hp]
    unfold World.cell?
    rw [hs _ (World.block_lt_of_cell? _ _ hp)]
theorem runsOf_length : ∀ l : List ByteArray, (runsOf l).length ≤ l.length := by
  have key : ∀ (n : Nat) (l : List ByteArray), l.length ≤ n → (runsOf l).length ≤ l.length := by
    intro n
    induction n with
    | zero =>
      intro l h
      have h0 : l = [] := List.eq_nil_of_length_eq_zero (by omega)
      subst h0
      rw [runsOf_nil]
      exact Nat.le_refl _
    | succ n ih =>
      intro l h
      cases l with
      | nil => rw [runsOf_nil]; exact Nat.le_refl _
      | cons x l =>
        rw [runsOf_cons, List.length_cons, List.length_cons]
        rw [List.length_cons] at h
        have h1 := ih (l.drop (lead x l)) (by rw [List.length_drop]; omega)
        rw [List.length_drop] at h1
        omega
  exact fun l => key l.length l (Nat.le_refl _)
theorem SameTo.below {w W : World} (h : Below w.heap.size w W) : SameTo w.heap.size w W := fun k hk => h.block k hk
theorem SameTo.less {B B' : Nat} {w W : World} (h : SameTo B w W) (hB : B' ≤ B) : SameTo B' w W := fun k hk => h k (by omega)
theorem sameTo_putObj {B : Nat} (W : World) {l : Nat} (hl : B ≤ l) (o : Obj) : SameTo B W (W.putObj l o) := fun k hk => World.putObj_heap_other (by omega)
theorem KpR.putObj {n0 bi : Nat} (W : World) {l : Nat} (hl : n0 ≤ l) (hb : bi < l) (o : Obj) : KpR n0 bi W (W.putObj l o) := ⟨sameTo_putObj W hl o, World.putObj_heap_other (by omega)⟩
theorem AbR.others {bi : Nat} {A B : World} (h : AbR bi A B) (k : Nat) (o : Obj) (hk : A.heap[k]? = some o) (ho : o.isCells = false) : B.heap[k]? = some o := h.2.same k o hk ho
set_option maxRecDepth 100000 in
theorem runs_any (A : Option Addr) (n c : Nat) (w : World) :
    Calls Try.prog 32 #[.slice A n c] w fun e w' => e = .returned (.func (.func 53) #[] #[.pointer (some ⟨w.heap.size, 0, none⟩)]) ∧ w.alloc (.cells #[.slice A n c] 22) = w' := by
  go_enter Try.func32, Try.ntmps32
  go_wp2_with fail
  go_ret
  exact ⟨rfl, rfl⟩
set_option maxHeartbeats 2000000 in
set_option maxRecDepth 100000 in
theorem arkCount_any (A : Option Addr) (ls : List ByteArray) (c : Nat) (w : World) (hr : Reads w 1 A ls.length (sts ls)) (hc : ls.length ≤ c) (hl : ls.length ≤ 1000000) :
    Calls Try.prog 13 #[.slice A ls.length c] w fun e w' => e = .returned (.int .i64 ((runsOf ls).length : Nat)) ∧ Below w.heap.size w w' := by
  obtain ⟨hb, hg0, hg1, hsz⟩ := alloc2 w #[.int .i64 0] 3 #[.slice A ls.length c] 22
  have HS := Lib.hid (runs1_any w.heap.size (w.heap.size + 1) (by omega) ls A c _ hg1 (fun W hW => reads_same hr ((SameTo.below hb).trans (hW.less (by omega)))) hc hl)
  have H0 := Lib.hid (And.intro hb (And.intro hg0 hsz))
  have HL := Lib.hid hl
  clear hr hc hl hb hg0 hg1 hsz
  refine calls_of_marks Try.func13 rfl ?_
  simp only [Try.ntmps13, List.size_toArray, List.length_cons, List.length_nil, Nat.reduceAdd, Nat.reduceSub, Array.replicate_succ, Array.replicate_zero, List.push_toArray, List.append_toArray, List.nil_append, List.cons_append]
  go_wp2_with fail
  refine (runs_any A ls.length c _).mono ?_
  rintro e w1 ⟨rfl, hw⟩
  have HW := Lib.hid hw
  rw [hw] at HS H0
  rw [show (w.alloc (.cells #[.int .i64 0] 3)).heap.size = w.heap.size + 1 from size_alloc _ _]
  clear hw
  go_wp2_with fail
  refine wp_rangeR (gf := 53) (lb := #[.pointer (some ⟨w.heap.size + 1, 0, none⟩)]) rfl (enters_of Try.func53 (by kernel_rfl) rfl) HS.out (Below.refl _ _) (fun _ => rfl) KpR.trans (fun W l o o' hl _ _ => KpR.putObj W (by have := H0.out.2.2; omega) (by have := H0.out.2.2; omega) o')
    (fun _ _ h k o _ hk ho => h.others k o hk ho)
    (fun pre W => W.heap[w.heap.size]? = some (.cells #[.int .i64 (pre.length : Nat)] 3 (0, 0)) ∧ Below w.heap.size w W)
    (fun pre A B h hab => ⟨(hab.1.block _ (Array.getElem?_eq_some_iff.1 h.1).1 (by omega)).trans h.1, h.2.trans (hab.1.below (fun i hi e => by omega) h.2.size)⟩)
    (fun pre W l o o' h hl ho hc => ⟨(World.putObj_heap_other (by have := H0.out.2.2; omega)).trans h.1, below_putObj h.2 (by have := H0.out.2.2; omega) (Array.getElem?_eq_some_iff.1 ho).1 o'⟩)
    (fun pre W o h _ _ => ⟨(heap_alloc_old _ _ (Array.getElem?_eq_some_iff.1 h.1).1).trans h.1, h.2.alloc h.2.size _⟩)
    ⟨H0.out.2.1, H0.out.1⟩ (fun x => { tmps := #[.slice A ls.length c, undef, .int .i64 0, .pointer (some ⟨w.heap.size, 0, none⟩), .slice A ls.length c, .func (.func 53) #[] #[.pointer (some ⟨w.heap.size + 1, 0, none⟩)], .string x.1, .int .i64 (x.2 : Nat), undef, undef, undef], defers := [] }) ?assign ?body ?done
  case assign =>
    intro l x W K hK
    apply wpIn_skip
    show K _ W
    simpa using hK
  case body =>
    rintro l pre x W ⟨h1, h2⟩ hpre
    have hpl : pre.length < 1000000 := by
      have h3 := hpre.length_le
      have h4 := runsOf_length ls
      have := HL.out
      rw [List.length_append, List.length_singleton] at h3
      omega
    obtain ⟨hc, hf⟩ := cells1 h1
    have H1 := Lib.hid h1
    have H2 := Lib.hid h2
    clear h1 h2 hpre
    apply wpIn_block
    refine wpIn_round_list (not_letsOut_block postR_out) (by kernel_rfl) ?_
    go_wp2_with fail
    have hs := heap_setCell_same _ _ 0 _ _ (.int .i64 ((pre.length : Int) + 1)) H1.out
    refine ⟨(KeepsOthers.setCell _ _ _).from _, ⟨fun k hk => Below.heap_setCell W ⟨w.heap.size, 0, none⟩ _ k (fun e => by have : k = w.heap.size := e; omega), Below.heap_setCell W ⟨w.heap.size, 0, none⟩ _ _ (fun e => by have : w.heap.size + 1 = w.heap.size := e; omega)⟩, ?_, H2.out.setCell (p := ⟨w.heap.size, 0, none⟩) (Nat.le_refl _) _⟩
    rw [List.length_append, List.length_singleton]
    exact hs
  case done =>
    rintro D W hD ⟨h1, h2⟩ hK
    obtain ⟨hc, hf⟩ := cells1 h1
    have H2 := Lib.hid h2
    have HK := Lib.hid hK
    have HD := Lib.hid (show w.heap.size ≤ D by have := H0.out.2.2; omega)
    clear h1 h2 hK hD
    go_wp2_with fail
    refine bodyPostM_mark HK.out (results_tmp rfl _ _ _) ⟨rfl, below_putObj H2.out HD.out (Array.getElem?_eq_some_iff.1 HK.out).1 _⟩
end Go.Proofs.Ytcahflddafdhfaa
