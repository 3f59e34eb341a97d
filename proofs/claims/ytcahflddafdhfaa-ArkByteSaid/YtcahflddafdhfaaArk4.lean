/- Arks: an image as bytes, walked. -/
import Derived.Test.YtcahflddafdhfaaArk3
import Derived.Lib.SlBytesConst
open Go.RowKit Go.Shelf
namespace Go.Proofs.Ytcahflddafdhfaa

/-- A fresh row of bytes that a function returns. -/
def RowOut (w w' : World) (A : Option Addr) (c : Nat) (l : List UInt8) : Prop := BRow w' A c l ∧ (∀ k, blk A = some k → w.heap.size ≤ k) ∧ Below w.heap.size w w'
theorem RowOut.nil {w w' : World} (hb : Below w.heap.size w w') : RowOut w w' none 0 [] := ⟨BRow.nil _, by simp [blk], hb⟩
theorem RowOut.keep {w w' w2 : World} {A : Option Addr} {c : Nat} {l : List UInt8} (h : RowOut w w' A c l) (hb : Below w'.heap.size w' w2) : RowOut w w2 A c l := ⟨h.1.below hb, h.2.1, h.2.2.trans (hb.mono h.2.2.size)⟩
/-- Between two runs: the box of the bytes, and what they are. -/
structure PkI (w : World) (B0 : Nat) (n0 : Nat) (L : List UInt8) (W : World) : Prop where
  b : Below w.heap.size w W
  lt : B0 + 1 < W.heap.size
  row : ∃ A c, W.heap[B0]? = some (.cells #[.slice A L.length c] 25 (0, 0)) ∧ BRow W A c L ∧ (∀ k, blk A = some k → w.heap.size ≤ k ∧ k ≠ B0 ∧ k ≠ B0 + 1)
section
variable {w : World} {B0 n0 : Nat} {L : List UInt8} {W : World}
theorem PkI.ab (h : PkI w B0 n0 L W) (hB : w.heap.size ≤ B0) {W' : World} (hab : AbR (B0 + 1) W W') : PkI w B0 n0 L W' := by
  obtain ⟨A, c, h1, h2, h3⟩ := h.row
  exact ⟨h.b.trans (hab.1.below (fun i hi e => by omega) h.b.size), Nat.lt_of_lt_of_le h.lt hab.1.size, A, c, (hab.1.block _ (Array.getElem?_eq_some_iff.1 h1).1 (by omega)).trans h1, h2.chg hab.1 (fun k hk e => (h3 k hk).2.2 e), h3⟩
theorem PkI.obj (h : PkI w B0 n0 L W) (hB : w.heap.size ≤ B0) {l : Nat} {o : Obj} (hl : B0 + 1 < l) (ho : W.heap[l]? = some o) (hc : o.isCells = false) (o' : Obj) : PkI w B0 n0 L (W.putObj l o') := by
  obtain ⟨A, c, h1, h2, h3⟩ := h.row
  exact ⟨below_putObj h.b (by omega) (Array.getElem?_eq_some_iff.1 ho).1 o', by rw [World.putObj_size]; exact h.lt, A, c, (World.putObj_heap_other (by omega)).trans h1, h2.putObj ho hc o', h3⟩
theorem PkI.alloc (h : PkI w B0 n0 L W) (o : Obj) : PkI w B0 n0 L (W.alloc o) := by
  obtain ⟨A, c, h1, h2, h3⟩ := h.row
  exact ⟨h.b.alloc h.b.size _, by rw [size_alloc]; have := h.lt; omega, A, c, (heap_alloc_old _ _ (Array.getElem?_eq_some_iff.1 h1).1).trans h1, h2.below ((Below.refl _ _).alloc (Nat.le_refl _) _), h3⟩
end
theorem wrapN {n : Nat} (h : n < 18446744073709551616) : IntKind.u64.wrap (n : Int) = (n : Int) := by
  unfold IntKind.wrap
  simp [IntKind.signed, IntKind.bits]
  omega
theorem arkHead_len (l : List ByteArray) (n : Nat) (rs : List (ByteArray × Nat)) (h : ∀ x ∈ rs, x.1.size ≤ 64) (hn : rs.length ≤ 128) : (arkMark ++ be 2 n ++ runBytes rs).length ≤ 10000 := by
  have := runBytes_length rs h
  rw [List.length_append, List.length_append, be_length]
  show 4 + 2 + _ ≤ _
  omega
set_option maxHeartbeats 4000000 in
set_option maxRecDepth 100000 in
theorem arkPack_any (A : Option Addr) (ls : List ByteArray) (c : Nat) (w : World) (hr : Reads w 1 A ls.length (sts ls)) (hc : ls.length ≤ c) (hl : ls.length ≤ 1000000) :
    Calls Try.prog 11 #[.slice A ls.length c] w fun e w' => ∃ A1 c1, e = .returned (.tuple #[.slice A1 (packL ls).length c1, .int .i64 (packE ls : Nat)]) ∧ RowOut w w' A1 c1 (packL ls) := by
  have Hr := Lib.hid hr
  have Hc := Lib.hid hc
  clear hr hc
  by_cases h1 : 128 < ls.length
  · have HE := Lib.hid (show packE ls = 8 ∧ packL ls = [] by
      have h : packE ls = 8 := by unfold packE; rw [if_pos h1]
      exact ⟨h, by unfold packL; rw [if_neg (by rw [h]; decide)]⟩)
    refine calls_of_marks Try.func11 rfl ?_
    simp only [Try.ntmps11, List.size_toArray, List.length_cons, List.length_nil, Nat.reduceAdd, Nat.reduceSub, Array.replicate_succ, Array.replicate_zero, List.push_toArray, List.append_toArray, List.nil_append, List.cons_append]
    go_wp2_with fail
    refine bodyPostM_of ?_
    go_ret2
    exact ⟨none, 0, by rw [HE.out.1, HE.out.2]; rfl, by rw [HE.out.2]; exact RowOut.nil (Below.refl _ _)⟩
  have HO := Lib.hid (arkContains_any w A ls c Hr.out (by omega))
  have H1 := Lib.hid h1
  cases ho : oddB ls with
  | true =>
    have HE := Lib.hid (show packE ls = 4 ∧ packL ls = [] by
      have h : packE ls = 4 := by unfold packE; rw [if_neg h1, if_pos ho]
      exact ⟨h, by unfold packL; rw [if_neg (by rw [h]; decide)]⟩)
    rw [ho] at HO
    clear ho
    refine calls_of_marks Try.func11 rfl ?_
    simp only [Try.ntmps11, List.size_toArray, List.length_cons, List.length_nil, Nat.reduceAdd, Nat.reduceSub, Array.replicate_succ, Array.replicate_zero, List.push_toArray, List.append_toArray, List.nil_append, List.cons_append]
    go_wp2_with fail
    refine HO.out.mono ?_
    rintro e w' ⟨rfl, rfl⟩
    go_wp2_with fail
    refine bodyPostM_of ?_
    go_ret2
    exact ⟨none, 0, by rw [HE.out.1, HE.out.2]; rfl, by rw [HE.out.2]; exact RowOut.nil (Below.refl _ _)⟩
  | false =>
    have HE := Lib.hid (show packE ls = 0 ∧ packL ls = arkBody ls ++ be 4 (crcAdd 0 (arkBody ls)) by
      have h : packE ls = 0 := by unfold packE; rw [if_neg h1, ho]; rfl
      exact ⟨h, by unfold packL; rw [if_pos h]⟩)
    rw [ho] at HO
    have HSz := Lib.hid (show ∀ x ∈ runsOf ls, x.1.size = 64 ∧ 1 ≤ x.2 ∧ x.2 ≤ 128 from fun x hx => by
      obtain ⟨h3, h4, h5⟩ := runsOf_mem ls x hx
      exact ⟨oddB_no ho _ h3, h4, by omega⟩)
    have HRl := Lib.hid (show (runsOf ls).length ≤ 128 from Nat.le_trans (runsOf_length ls) (by omega))
    clear ho
    have kc := fun (w : World) (C : Array Value) (n c : Nat) => Lib.run_convert_bytes_const (P := Try.prog) w 25 5 C n c Try.underlying25 Try.underlying5
    have hwl := wrapN (n := ls.length) (by omega)
    refine calls_of_marks Try.func11 rfl ?_
    simp only [Try.ntmps11, List.size_toArray, List.length_cons, List.length_nil, Nat.reduceAdd, Nat.reduceSub, Array.replicate_succ, Array.replicate_zero, List.push_toArray, List.append_toArray, List.nil_append, List.cons_append]
    go_wp2_with fail
    refine HO.out.mono ?_
    rintro e w' ⟨rfl, rfl⟩
    go_wp2_with fail
    clear kc hwl HO
    have hM : Reads (w.alloc (.cells #[.int .u8 65, .int .u8 82, .int .u8 75, .int .u8 49] 5 (4, 5))) 1 (some ⟨w.heap.size, 0, none⟩) 4 (bv arkMark) := Reads.of_block (n := 4) (heap_alloc_new _ _) rfl
    have hbM : Below w.heap.size w (w.alloc (.cells #[.int .u8 65, .int .u8 82, .int .u8 75, .int .u8 49] 5 (4, 5))) := (Below.refl _ _).alloc (Nat.le_refl _) _
    have HQ := Lib.hid (put_any (some ⟨w.heap.size, 0, none⟩) arkMark 4 2 ls.length (by omega) _ hM (by decide))
    have HB := Lib.hid hbM
    clear hM hbM
    refine (show Calls Try.prog 31 #[.slice (some ⟨w.heap.size, 0, none⟩) 4 4, .int .i64 2, .int .u64 (ls.length : Nat)] _ _ from HQ.out).mono ?_
    rintro e w2 ⟨A2, c2, rfl, ho, hb⟩
    rw [wPut_ok (wOk_true (by omega) (by omega)), show Int.toNat 2 = 2 from rfl] at ho ⊢
    obtain ⟨hr2, hk2⟩ := BRow.of_own ho
    have HB := Lib.hid (HB.out.trans (hb.mono HB.out.size))
    have HR2 := Lib.hid hr2
    have HK2 := Lib.hid hk2
    clear ho hr2 hk2 hb HQ
    obtain ⟨M2, hM2⟩ : ∃ M2, arkMark ++ be 2 ls.length = M2 := ⟨_, rfl⟩
    rw [hM2] at HR2 ⊢
    have HM2 := Lib.hid hM2
    clear hM2
    have hsz2 : w.heap.size ≤ w2.heap.size := HB.out.size
    obtain ⟨hb3, hg3, hs3⟩ := alloc1 w2 #[.slice A2 M2.length c2] 25
    obtain ⟨hb4, hg4, hg5, hs4⟩ := alloc2 w2 #[.slice A2 M2.length c2] 25 #[.slice A ls.length c] 22
    have HSq := Lib.hid (runs1_any w.heap.size (w2.heap.size + 1) (by omega) ls A c _ hg5 (fun W hW => reads_same Hr.out (SameTo.trans (SameTo.below (HB.out.trans (hb4.mono hsz2))) hW)) Hc.out hl)
    have HI := Lib.hid (show PkI w w2.heap.size w.heap.size M2 ((w2.alloc (.cells #[.slice A2 M2.length c2] 25)).alloc (.cells #[.slice A ls.length c] 22)) from
      ⟨HB.out.trans (hb4.mono hsz2), by rw [hs4]; omega, A2, c2, hg4, HR2.out.below hb4, fun k hk => by
        have h5 := HK2.out k hk
        have h6 := HR2.out.lt hk
        have h7 := (alloc1 w #[.int .u8 65, .int .u8 82, .int .u8 75, .int .u8 49] 5).2.2
        rw [size_alloc] at h5
        exact ⟨by omega, by omega, by omega⟩⟩)
    go_wp2_with fail
    refine (runs_any A ls.length c _).mono ?_
    rintro e w4 ⟨rfl, hw⟩
    rw [hw] at HSq HI hs4
    rw [hs3]
    have HS4 := Lib.hid hs4
    clear hw hb3 hg3 hs3 hb4 hg4 hg5 hs4 HR2 HK2
    go_wp2_with fail
    refine wp_rangeR (gf := 53) (lb := #[.pointer (some ⟨w2.heap.size + 1, 0, none⟩)]) rfl (enters_of Try.func53 (by kernel_rfl) rfl) HSq.out (Below.refl _ _) (fun _ => rfl) KpR.trans (fun W l o o' hl _ _ => KpR.putObj W (by have := HS4.out; omega) (by have := HS4.out; omega) o')
      (fun _ _ h k o _ hk ho => h.others k o hk ho)
      (fun pre W => PkI w w2.heap.size w.heap.size (M2 ++ runBytes pre) W)
      (fun pre A B h hab => h.ab hsz2 hab)
      (fun pre W l o o' h hl ho hc => h.obj hsz2 (by have := HS4.out; omega) ho hc o')
      (fun pre W o h _ _ => h.alloc o)
      (by rw [show runBytes [] = [] from rfl, List.append_nil]; exact HI.out) (fun x => { tmps := #[.slice A ls.length c, undef, .slice none 0 0, .int .i64 0, .pointer (some ⟨w2.heap.size, 0, none⟩), .string x.1, .int .i64 (x.2 : Nat), .bool (decide (128 < (ls.length : Int))), .slice A ls.length c, .int .i64 ls.length, .bool (decide (128 < (ls.length : Int))), .bool false, .slice A ls.length c, .bool false, .slice (some ⟨w.heap.size, 0, none⟩) 4 4, .slice (some ⟨w.heap.size, 0, none⟩) 4 4, .slice A ls.length c, .int .i64 ls.length, .int .u64 ls.length, .slice A2 M2.length c2, .slice A ls.length c, .func (.func 53) #[] #[.pointer (some ⟨w2.heap.size + 1, 0, none⟩)], .string x.1, .int .i64 (x.2 : Nat), undef, undef, undef, undef, undef, undef, undef, undef, undef, undef, undef], defers := [] }) ?assign ?body ?done
    case assign =>
      intro l x W K hK
      apply wpIn_seq_k
      intro K2 hK2
      refine wpIn_round_list (not_letsOut_then (fun ⟨_, _, h⟩ => h)) (by kernel_rfl) ?_
      go_wp2_with fail
      refine wpIn_round_list (not_letsOut_then (fun ⟨_, _, h⟩ => h)) (by kernel_rfl) ?_
      go_wp2_with fail
      simpa using hK
    case body =>
      rintro l pre x W hi hpre
      have hmem : ∀ y ∈ pre ++ [x], y ∈ runsOf ls := fun y hy => hpre.subset hy
      have hx := HSz.out x (hmem x (by simp))
      have hpl := hpre.length_le
      rw [List.length_append, List.length_singleton] at hpl
      have hLl := arkHead_len ls ls.length pre (fun y hy => Nat.le_of_eq (HSz.out y (hmem y (by simp [hy]))).1) (by have := HRl.out; omega)
      rw [HM2.out] at hLl
      obtain ⟨A3, c3, h3, h4, h5⟩ := hi.row
      obtain ⟨hc3, hf3⟩ := cells1 h3
      have HBi := Lib.hid hi.b
      have HLt0 := Lib.hid hi.lt
      have H3 := Lib.hid h3
      have H4 := Lib.hid h4
      have H5 := Lib.hid h5
      have hwx := wrapN (n := x.2) (by omega)
      have HX := Lib.hid hx
      obtain ⟨L, hL⟩ : ∃ L, M2 ++ runBytes pre = L := ⟨_, rfl⟩
      rw [hL] at hLl H3 H4 hc3
      have HLs := Lib.hid (show M2 ++ runBytes (pre ++ [x]) = L ++ be 1 x.2 ++ bl x.1 by rw [← hL, runBytes_snoc]; simp only [List.append_assoc])
      have HLl := Lib.hid hLl
      have HQ := Lib.hid (put_any A3 L c3 1 x.2 (by omega) W H4.out.reads (by omega))
      clear hi h3 h4 h5 hL hmem hpl hpre hx
      apply wpIn_block
      refine wpIn_round_list (not_letsOut_block postR_out) (by kernel_rfl) ?_
      go_wp2_with fail
      refine HQ.out.mono ?_
      rintro e w5 ⟨A5, c5, rfl, ho, hb⟩
      rw [wPut_ok (wOk_true (by omega) (by omega)), show Int.toNat 1 = 1 from rfl] at ho ⊢
      obtain ⟨hr5, hk5⟩ := BRow.of_own ho
      have hl5 : (L ++ be 1 x.2).length = L.length + 1 := by rw [List.length_append, be_length]
      have Hb5 := Lib.hid hb
      have Hk5 := Lib.hid hk5
      clear ho hb hk5 HQ
      obtain ⟨L5, hL5⟩ : ∃ L5, L ++ be 1 x.2 = L5 := ⟨_, rfl⟩
      rw [hL5] at hr5 hl5 HLs ⊢
      have HL5 := Lib.hid hl5
      clear hL5 hl5
      go_wp2_with (at_builtin; refine wpList_append_bs rfl (.tmp 27) (.tmp 28) rfl A5 c5 L5 rfl hr5 x.1 rfl (by have := HL5.out; have := HLl.out; have := HX.out.1; omega) ?_)
      intro A6 c6 w6 hr6 hc6 hk6
      have HB6 := Lib.hid (show Below W.heap.size W w6 from Hb5.out.trans (hc6.below (fun i hi e => by have := Hk5.out i e; omega) Hb5.out.size))
      have hlt := (Array.getElem?_eq_some_iff.1 H3.out).1
      have hb6 : w6.heap[w2.heap.size]? = _ := (HB6.out.block _ hlt).trans H3.out
      obtain ⟨hc6', hf6⟩ := cells1 hb6
      have H6 := Lib.hid hb6
      have HR6 := Lib.hid hr6
      have HK6 := Lib.hid (show ∀ k, blk A6 = some k → W.heap.size ≤ k from fun k hk => by
        rcases hk6 k hk with h | h
        · exact Hk5.out k h
        · rw [h]; exact Hb5.out.size)
      have el6 : (L5 ++ bl x.1).length = L5.length + x.1.size := by rw [List.length_append, bl_length]
      try rw [el6]
      try rw [bl_length x.1]
      have HEl := Lib.hid el6
      have HLt := HLt0
      clear hr6 hc6 hk6 hb6 hr5 hlt hc3 hf3 el6
      go_wp2_with fail
      have hlt := HLt.out
      have hs7 := heap_setCell_same _ _ 0 _ _ (.slice A6 (L5.length + x.1.size) c6) H6.out
      have hset : ∀ k, k ≠ w2.heap.size → (w6.setCell ⟨w2.heap.size, 0, none⟩ (.slice A6 (L5.length + x.1.size) c6)).heap[k]? = w6.heap[k]? := fun k hk => Below.heap_setCell w6 ⟨w2.heap.size, 0, none⟩ _ k (fun e => hk e)
      refine ⟨((⟨HB6.out.size, fun k o hk _ => (HB6.out.block k (Array.getElem?_eq_some_iff.1 hk).1).trans hk⟩ : KeepsOthers W w6).trans (KeepsOthers.setCell _ _ _)).from _, ⟨fun k hk => ?_, ?_⟩, ?_⟩
      · rw [hset k (by omega), HB6.out.block k (by omega)]
      · rw [hset _ (by omega), HB6.out.block _ (by omega)]
      · refine ⟨(HBi.out.trans (HB6.out.mono HBi.out.size)).setCell (p := ⟨w2.heap.size, 0, none⟩) hsz2 _, by rw [size_set]; have := HB6.out.size; omega, A6, c6, ?_, ?_, fun k hk => ?_⟩
        · rw [HLs.out, HEl.out]
          exact hs7
        · rw [HLs.out]
          exact HR6.out.chg (F := fun i => i = w2.heap.size) ((Chg.refl _ _).set _ 0 _ (fun _ => rfl)) (fun k hk e => by have := HK6.out k hk; omega)
        · have h1 := HK6.out k hk
          have h2 := HBi.out.size
          exact ⟨by omega, by omega, by omega⟩
    case done =>
      rintro D W hD hi hK
      obtain ⟨A3, c3, h3, h4, h5⟩ := hi.row
      obtain ⟨hc3, hf3⟩ := cells1 h3
      have HBi := Lib.hid hi.b
      have H3 := Lib.hid h3
      have H4 := Lib.hid h4
      have H5 := Lib.hid h5
      have HK := Lib.hid hK
      have HD := Lib.hid (show w.heap.size ≤ D by have := HS4.out; omega)
      have hLl := arkHead_len ls ls.length (runsOf ls) (fun y hy => Nat.le_of_eq (HSz.out y hy).1) HRl.out
      rw [HM2.out] at hLl
      have HX := Lib.hid (show arkBody ls = M2 ++ runBytes (runsOf ls) by unfold arkBody; rw [HM2.out])
      rw [← HX.out] at hLl H3 H4 hc3
      obtain ⟨L, hL⟩ : ∃ L, arkBody ls = L := ⟨_, rfl⟩
      rw [hL] at hLl H3 H4 hc3 HE
      have HLl := Lib.hid hLl
      clear hi h3 h4 h5 hL hK hD hc3 hf3
      go_wp2_with fail
      have H3 := Lib.hid (show W.drew.heap[w2.heap.size]? = _ from H3.out)
      have HK := Lib.hid (show W.drew.heap[D]? = _ from HK.out)
      have H4 := Lib.hid (show BRow W.drew A3 c3 L from H4.out)
      have HBi := Lib.hid HBi.out.drew
      have hcv := fun w' (hk : KeepsBut [] W.drew w') => hk.cell (p := ⟨w2.heap.size, 0, none⟩) (cells1 H3.out).1 (by simp)
      refine wp_region_mix3 (KeepsBut []) (KeepsBut.refl []) (KeepsBut.trans []) [] [(1, 0), (1, 1), (2, 2), (1, 3), (2, 4), (0, 5), (0, 6)] (by kernel_rfl) (by kernel_rfl) (fun d _ _ _ _ h => by cases d <;> exact h) ?_
      generalize W.drew = wd at H3 HK H4 HBi hcv ⊢
      repeat (first
        | (refine mix3_free (v := ?_) rfl rfl ?_ (mix3_norm (a' := ?_) ?_ ?_)
           rotate_left
           focus (intro w'; go_simp; first | done | (with_reducible rfl))
           rotate_left
           focus (simp only [Act.put, List.getElem_toArray, List.getElem_cons_zero, List.getElem_cons_succ, List.setIfInBounds_toArray, List.set_cons_zero, List.set_cons_succ]; rfl))
        | (refine mix3_pure (v := ?_) rfl rfl ?_ (mix3_norm (a' := ?_) ?_ ?_)
           rotate_left
           focus (intro w' hR; go_simp; first | done | (with_reducible rfl))
           rotate_left
           focus (simp only [Act.put, List.getElem_toArray, List.getElem_cons_zero, List.getElem_cons_succ, List.setIfInBounds_toArray, List.set_cons_zero, List.set_cons_succ]; rfl))
        | (refine mix3_freeOff rfl rfl (mix3_norm (a' := ?_) ?_ ?_)
           rotate_left
           focus (simp only [Act.put, List.getElem_toArray, List.getElem_cons_zero, List.getElem_cons_succ, List.setIfInBounds_toArray, List.set_cons_zero, List.set_cons_succ]; rfl))
        | (refine mix3_off rfl rfl (mix3_norm (a' := ?_) ?_ ?_)
           rotate_left
           focus (simp only [Act.put, List.getElem_toArray, List.getElem_cons_zero, List.getElem_cons_succ, List.setIfInBounds_toArray, List.set_cons_zero, List.set_cons_succ]; rfl)))
      clear hcv
      have hwc := wrapN (n := crcAdd 0 L) (by have := crcAdd_lt 0 L; omega)
      refine mix3_eff rfl ?_
      simp only [List.getElem_toArray, List.getElem_cons_zero, List.getElem_cons_succ]
      go_wp2_with fail
      refine (crcSum_any A3 L c3 wd H4.out.reads (by have := HLl.out; unfold maxLen; omega)).mono ?_
      rintro e w7 ⟨rfl, hb⟩
      have hk : KeepsBut [] _ _ := KeepsBut.of_below hb
      have H4 := Lib.hid (H4.out.below hb)
      have HK := Lib.hid ((hb.block _ (Array.getElem?_eq_some_iff.1 HK.out).1).trans HK.out)
      have HBi := Lib.hid (HBi.out.trans (hb.mono HBi.out.size))
      go_wp2_with fail
      refine mixQ3_normal hk rfl ?_
      clear hb hk
      repeat (first
        | (refine mix3_free (v := ?_) rfl rfl ?_ (mix3_norm (a' := ?_) ?_ ?_)
           rotate_left
           focus (intro w'; go_simp; first | done | (with_reducible rfl))
           rotate_left
           focus (simp only [Act.put, List.getElem_toArray, List.getElem_cons_zero, List.getElem_cons_succ, List.setIfInBounds_toArray, List.set_cons_zero, List.set_cons_succ]; rfl))
        | (refine mix3_pure (v := ?_) rfl rfl ?_ (mix3_norm (a' := ?_) ?_ ?_)
           rotate_left
           focus (intro w' hR; go_simp; first | done | (with_reducible rfl))
           rotate_left
           focus (simp only [Act.put, List.getElem_toArray, List.getElem_cons_zero, List.getElem_cons_succ, List.setIfInBounds_toArray, List.set_cons_zero, List.set_cons_succ]; rfl))
        | (refine mix3_freeOff rfl rfl (mix3_norm (a' := ?_) ?_ ?_)
           rotate_left
           focus (simp only [Act.put, List.getElem_toArray, List.getElem_cons_zero, List.getElem_cons_succ, List.setIfInBounds_toArray, List.set_cons_zero, List.set_cons_succ]; rfl))
        | (refine mix3_off rfl rfl (mix3_norm (a' := ?_) ?_ ?_)
           rotate_left
           focus (simp only [Act.put, List.getElem_toArray, List.getElem_cons_zero, List.getElem_cons_succ, List.setIfInBounds_toArray, List.set_cons_zero, List.set_cons_succ]; rfl)))
      clear hwc
      refine mix3_eff rfl ?_
      simp only [List.getElem_toArray, List.getElem_cons_zero, List.getElem_cons_succ]
      go_wp2_with fail
      refine (put_any A3 L c3 4 (crcAdd 0 L) (by have := crcAdd_lt 0 L; omega) w7 H4.out.reads (by have := HLl.out; omega)).mono ?_
      rintro e w8 ⟨A8, c8, rfl, ho, hb⟩
      rw [wPut_ok (wOk_true (by omega) (by omega)), show Int.toNat 4 = 4 from rfl] at ho ⊢
      obtain ⟨hr8, hk8⟩ := BRow.of_own ho
      have hk : KeepsBut [] _ _ := KeepsBut.of_below hb
      have HK := Lib.hid ((hb.block _ (Array.getElem?_eq_some_iff.1 HK.out).1).trans HK.out)
      have hle := HBi.out.size
      have HBi := Lib.hid (HBi.out.trans (hb.mono HBi.out.size))
      have HR8 := Lib.hid hr8
      have HK8 := Lib.hid (show ∀ k, blk A8 = some k → w.heap.size ≤ k from fun k hk => Nat.le_trans hle (hk8 k hk))
      clear hr8 hk8 ho hle
      rw [← HE.out.2] at HR8 ⊢
      go_wp2_with fail
      refine mixQ3_normal hk rfl ?_
      clear hb hk
      repeat (first
        | (refine mix3_free (v := ?_) rfl rfl ?_ (mix3_norm (a' := ?_) ?_ ?_)
           rotate_left
           focus (intro w'; go_simp; first | done | (with_reducible rfl))
           rotate_left
           focus (simp only [Act.put, List.getElem_toArray, List.getElem_cons_zero, List.getElem_cons_succ, List.setIfInBounds_toArray, List.set_cons_zero, List.set_cons_succ]; rfl))
        | (refine mix3_pure (v := ?_) rfl rfl ?_ (mix3_norm (a' := ?_) ?_ ?_)
           rotate_left
           focus (intro w' hR; go_simp; first | done | (with_reducible rfl))
           rotate_left
           focus (simp only [Act.put, List.getElem_toArray, List.getElem_cons_zero, List.getElem_cons_succ, List.setIfInBounds_toArray, List.set_cons_zero, List.set_cons_succ]; rfl))
        | (refine mix3_freeOff rfl rfl (mix3_norm (a' := ?_) ?_ ?_)
           rotate_left
           focus (simp only [Act.put, List.getElem_toArray, List.getElem_cons_zero, List.getElem_cons_succ, List.setIfInBounds_toArray, List.set_cons_zero, List.set_cons_succ]; rfl))
        | (refine mix3_off rfl rfl (mix3_norm (a' := ?_) ?_ ?_)
           rotate_left
           focus (simp only [Act.put, List.getElem_toArray, List.getElem_cons_zero, List.getElem_cons_succ, List.setIfInBounds_toArray, List.set_cons_zero, List.set_cons_succ]; rfl)))
      refine mix3_done ?_
      go_wp2_with fail
      refine bodyPostM_mark HK.out (results_tmp2 rfl _ _ _) ⟨A8, c8, by rw [HE.out.1]; rfl, HR8.out.putObj HK.out rfl _, HK8.out, below_putObj HBi.out HD.out (Array.getElem?_eq_some_iff.1 HK.out).1 _⟩
end Go.Proofs.Ytcahflddafdhfaa
