import Derived.Test.YtebcginnnjigjaaC33
import Derived.Test.YtebcginnnjigjaaC28
import Derived.Test.YtebcginnnjigjaaC1
import Derived.Test.YtebcginnnjigjaaC25
import Derived.Test.YtebcginnnjigjaaC18
section
/- The sessions of all frames, rising. -/
open Go.RowKit Go.Shelf Go.Maps
namespace Go.Proofs.Ytebcginnnjigjaa

theorem pair_one : ∀ l : List Int, l.length ≤ 1 → l.Pairwise (· ≤ ·)
  | [], _ => List.Pairwise.nil
  | [_], _ => List.pairwise_singleton _ _
  | _ :: _ :: _, h => by simp at h
set_option maxRecDepth 100000 in
theorem insertion1_any (W : World) (A : Option Addr) (n c : Nat) (hn : n ≤ 1) : Calls Try.prog 82 #[.slice A n c, .int .i64 0, .int .i64 (n : Nat)] W fun e W' => e = .returned (.tuple #[]) ∧ W = W' := by
  go_enter Try.func82, Try.ntmps82
  go_wp2_with fail
  refine wp_loop_rounds 1 ?_
  rw [rounds_succ]
  go_wp2_with fail
  go_end0
  exact ⟨rfl, rfl⟩
set_option maxRecDepth 100000 in
theorem pdq1_any (W : World) (A : Option Addr) (n c : Nat) (lim : Int) (hn : n ≤ 1) : Calls Try.prog 75 #[.slice A n c, .int .i64 0, .int .i64 (n : Nat), .int .i64 lim] W fun e W' => e = .returned (.tuple #[]) ∧ W = W' := by
  have HI := Lib.hid (insertion1_any W A n c hn)
  go_enter Try.func75, Try.ntmps75
  go_wp2_with fail
  refine wp_loop_rounds 1 ?_
  rw [rounds_succ]
  go_wp2_with fail
  refine HI.out.mono ?_
  rintro e w1 ⟨rfl, rfl⟩
  go_wp2_with fail
  try simp only [Exit.inBlock, Exit.then]
  refine bodyPost_ret (results_none rfl _ _ _) rfl ?_
  exact ⟨rfl, rfl⟩
theorem bitsLen_any (n : Nat) (W : World) (h : n ≤ 100000) : Calls Try.prog 76 #[.int .u64 (n : Nat)] W fun e w' => e = .returned (.int .i64 (Lib.bitLen n : Nat)) ∧ w' = W := by
  have h := Any.bits_Len bitsLen (n : Int) W (Int.natCast_nonneg n) (Int.le_trans (show (n : Int) ≤ 100000 by omega) (by decide))
  change Calls Try.prog 76 _ _ _ at h
  rw [Int.toNat_natCast] at h
  exact h
set_option maxRecDepth 100000 in
theorem sort1_any (W : World) (A : Option Addr) (c : Nat) (l : List Int) (hl : l.length ≤ 1) (hr : KRow W A c l) : Calls Try.prog 49 #[.slice A l.length c] W fun e W' => e = .returned (.tuple #[]) ∧ ∃ ss : List Int, ss.Perm l ∧ ss.Pairwise (· ≤ ·) ∧ KRow W' A c ss ∧ Chg (fun i => blk A = some i) W W' := by
  have HP := Lib.hid (fun lim => pdq1_any W A l.length c lim hl)
  have HB := Lib.hid (bitsLen_any l.length W (by omega))
  have wr := wrap64_nat (n := l.length) (by omega)
  have Hr := Lib.hid hr
  have HL := Lib.hid hl
  clear hr hl
  go_enter Try.func49, Try.ntmps49
  go_wp2_with fail
  refine HB.out.mono ?_
  rintro e w1 ⟨rfl, rfl⟩
  generalize ((Lib.bitLen l.length : Nat) : Int) = nb
  clear wr HB
  go_wp2_with fail
  refine (HP.out _).mono ?_
  rintro e w2 ⟨rfl, rfl⟩
  go_wp2_with fail
  go_end0
  exact ⟨rfl, l, List.Perm.refl _, pair_one l HL.out, Hr.out, Chg.refl _ _⟩
theorem sortsTo_one : SortsTo 1 := sort1_any
end Go.Proofs.Ytebcginnnjigjaa

end
section
/- The sessions of all frames: walked. -/
open Go.RowKit Go.Shelf Go.Maps
namespace Go.Proofs.Ytebcginnnjigjaa

theorem fcs_get : ∀ (l : List FT) (k : Nat) (hk : k < l.length) (j : Nat), j < 11 → (fcs l)[k * 11 + j]? = l[k].cs[j]?
  | [], k, hk, _, _ => by simp at hk
  | t :: l, 0, _, j, hj => by
    show (t.cs ++ fcs l)[0 * 11 + j]? = t.cs[j]?
    rw [Nat.zero_mul, Nat.zero_add, List.getElem?_append_left (by show j < 11; exact hj)]
  | t :: l, k + 1, hk, j, hj => by
    show (t.cs ++ fcs l)[(k + 1) * 11 + j]? = _
    rw [List.getElem?_append_right (by show 11 ≤ _; omega)]
    have e : (k + 1) * 11 + j - t.cs.length = k * 11 + j := by show (k + 1) * 11 + j - 11 = _; omega
    rw [e]
    exact fcs_get l k (by simpa using hk) j hj
theorem FRow.form {w : World} {A : Option Addr} {c : Nat} {l : List FT} (h : FRow w A c l) (h0 : 0 < l.length) : ∃ g, A = some ⟨g, 0, none⟩ ∧ g < w.heap.size := by
  obtain ⟨g, cap, hv, _, hlt⟩ := World.ownsRow.form h.1 h0
  injection hv with hA
  exact ⟨g, hA, hlt⟩
theorem FRow.cells {w : World} {g c : Nat} {l : List FT} (h : FRow w (some ⟨g, 0, none⟩) c l) {k : Nat} (hk : k < l.length) :
    w.cell? ⟨g, k * 11, none⟩ = some (.int .i64 l[k].x.k) ∧ w.cell? ⟨g, k * 11 + 1, none⟩ = some (.int .u64 (l[k].x.s : Int)) ∧ w.cell? ⟨g, k * 11 + 2, none⟩ = some (.int .u64 (l[k].x.e : Int)) ∧ w.cell? ⟨g, k * 11 + 3, none⟩ = some (.int .u32 (l[k].x.q : Int)) ∧ w.cell? ⟨g, k * 11 + 4, none⟩ = some (.int .u32 (l[k].x.v : Int)) ∧ w.cell? ⟨g, k * 11 + 5, none⟩ = some (.int .i64 l[k].x.n) ∧ w.cell? ⟨g, k * 11 + 6, none⟩ = some (.int .i64 l[k].x.f) ∧ w.cell? ⟨g, k * 11 + 7, none⟩ = some (.int .i64 l[k].x.i) ∧ w.cell? ⟨g, k * 11 + 8, none⟩ = some (.int .i64 l[k].x.c) ∧ w.cell? ⟨g, k * 11 + 9, none⟩ = some (.string l[k].x.d) ∧ w.cell? ⟨g, k * 11 + 10, none⟩ = some (.slice l[k].A l[k].x.l.length l[k].c) := by
  have at_ : ∀ j, j < 11 → w.cell? ⟨g, k * 11 + j, none⟩ = l[k].cs[j]? := fun j hj => by
    rw [World.ownsRow.cellAt h.1 (k * 11 + j) (by omega)]
    exact fcs_get l k hk j hj
  exact ⟨at_ 0 (by omega), at_ 1 (by omega), at_ 2 (by omega), at_ 3 (by omega), at_ 4 (by omega), at_ 5 (by omega), at_ 6 (by omega), at_ 7 (by omega), at_ 8 (by omega), at_ 9 (by omega), at_ 10 (by omega)⟩
theorem FRow.keep {w w1 : World} {A : Option Addr} {c : Nat} {l : List FT} (h : FRow w A c l) (hk : ∀ (k : Nat) (o : Obj), w.heap[k]? = some o → o.isWalk = false → w1.heap[k]? = some o) : FRow w1 A c l := by
  have key : ∀ {e : TypeId} {size n : Nat} {v : Value} {xs : List Value}, w.ownsRow 0 e size v n xs → w1.ownsRow 0 e size v n xs := fun h => by
    refine ⟨h.1, ?_⟩
    rcases h.2 with h2 | ⟨g, cap, cur, hv, h1, h2, h3⟩
    · exact .inl h2
    · exact .inr ⟨g, cap, cur, hv, h1, hk _ _ h2 rfl, h3⟩
  exact ⟨key h.1, fun t ht => key (h.2 t ht)⟩
def sesL (l : List Fr) : List Int := l.map fun x => (x.s : Int)
theorem sesL_len (l : List Fr) : (sesL l).length = l.length := by simp [sesL]
theorem ses_take (l : List FT) {k : Nat} (hk : k < l.length) : sesL ((l.map FT.x).take (k + 1)) = sesL ((l.map FT.x).take k) ++ [(l[k].x.s : Int)] := by
  rw [List.take_add_one, List.getElem?_map, List.getElem?_eq_getElem hk]
  simp [sesL]
theorem wf_u64 {n : Nat} (h : n < 18446744073709551616) : (Lit.int .u64 (n : Int)).wf = true := by
  simp only [Lit.wf, IntKind.min, IntKind.max, IntKind.signed, IntKind.bits]
  simp
  omega
set_option maxHeartbeats 4000000 in
set_option maxRecDepth 100000 in
theorem sessions_any (n : Nat) (hsort : SortsTo n) (w : World) (g : Nat) (A : Option Addr) (c : Nat) (σ : Nt) (h : NetP w g A c σ) (hp : PkOk σ.ps) (hl : σ.ps.length ≤ 1000) (hn : ∀ ys, finU (sesL (framesL σ.ps)) ys → ys.length ≤ n) :
    Calls Try.prog 14 #[.pointer (some ⟨g, 0, none⟩)] w fun e w' => ∃ ss A c, finU (sesL (framesL σ.ps)) ss ∧ ss.Pairwise (· ≤ ·) ∧ e = .returned (.slice A ss.length c) ∧ KRow w' A c ss ∧ (∀ k, blk A = some k → w.heap.size ≤ k) ∧ Below w.heap.size w w' := by
  have hbm : Below w.heap.size w (w.alloc (.map #[] 0)) := (Below.refl _ _).alloc (Nat.le_refl _) _
  have HF := Lib.hid (frames_any _ g A c σ (h.chg (F := fun _ => False) (.of_below hbm) (fun _ _ f => f)) hp hl)
  have HM := Lib.hid (MapU.made w)
  have HBm := Lib.hid hbm
  have Hn := Lib.hid hn
  have HS := Lib.hid hsort
  have HFl := Lib.hid (framesL_len σ.ps)
  have hmm := @run_makeMap Try.prog
  have HOk := Lib.hid (show ∀ x ∈ framesL σ.ps, x.s < 18446744073709551616 from fun x hx => by
    obtain ⟨p, _, hp2⟩ := List.mem_filterMap.1 hx
    unfold frameOf at hp2
    split at hp2
    · injection hp2 with e; rw [← e]; exact (getX_sm (bl p.2)).1.1
    · cases hp2)
  clear h hp hn hsort hbm
  generalize framesL σ.ps = F at HF Hn HFl HOk ⊢
  go_enter Try.func14, Try.ntmps14
  go_wp2_with fail
  refine HF.out.mono ?_
  rintro e w1 ⟨A1, c1, l, rfl, hx, hr, hk, hb⟩
  have hll : l.length = F.length := by rw [← hx, List.length_map]
  have HX := Lib.hid hx
  have HR := Lib.hid hr
  have HB := Lib.hid (HBm.out.trans (hb.mono (B' := w.heap.size) HBm.out.size))
  have HM := Lib.hid (HM.out.below hb)
  have HL := Lib.hid (show l.length ≤ 1000 from by have := HFl.out; omega)
  have HOl := Lib.hid (show ∀ t ∈ l, t.x.s < 18446744073709551616 from fun t ht => HOk.out t.x (by rw [← hx]; exact List.mem_map.2 ⟨t, ht, rfl⟩))
  have HE := Lib.hid (show sesL (l.map FT.x) = sesL F by rw [hx])
  clear hx hr hk hb hll HF HBm hmm
  go_wp2_with fail
  go_loopw [10] (fun i wr => ∃ k : Nat, k ≤ l.length ∧ i = .int .i64 k ∧ Hid (MapU wr w.heap.size (sesL ((l.map FT.x).take k))) ∧ Hid (FRow wr A1 c1 l) ∧ Hid (Below w.heap.size w wr)) (fun i _ => l.length - (intOf i).toNat)
  case atStart => exact ⟨0, Nat.zero_le _, rfl, HM, HR, HB⟩
  case round =>
    clear HM HR HB
    obtain ⟨k, hk, rfl, HM, HR, HB⟩ := hrel
    have hkb : k ≤ 1000 := Nat.le_trans hk HL.out
    by_cases hlt : k < l.length
    · obtain ⟨b, rfl, _⟩ := HR.out.form (by omega)
      obtain ⟨c0, c1', c2, c3, c4, c5, c6, c7, c8, c9, c10⟩ := HR.out.cells hlt
      have HT := Lib.hid (ses_take l hlt)
      have HO := Lib.hid (wf_u64 (HOl.out l[k] (List.getElem_mem hlt)))
      generalize l[k] = t at c0 c1' c2 c3 c4 c5 c6 c7 c8 c9 c10 HT HO
      obtain ⟨y, A4, c4'⟩ := t
      simp only at c0 c1' c2 c3 c4 c5 c6 c7 c8 c9 c10
      obtain ⟨hb5, hg5, hs5⟩ := alloc1 wr #[.int .i64 y.k, .int .u64 (y.s : Int), .int .u64 (y.e : Int), .int .u32 (y.q : Int), .int .u32 (y.v : Int), .int .i64 y.n, .int .i64 y.f, .int .i64 y.i, .int .i64 y.c, .string y.d, .slice A4 y.l.length c4'] 58
      obtain ⟨_, d1, _⟩ := cells11 hg5
      have HM5 := Lib.hid (HM.out.below hb5)
      have HR5 := Lib.hid (HR.out.below hb5)
      have HB5 := Lib.hid (HB.out.trans (hb5.mono (B' := w.heap.size) HB.out.size))
      have HLn := Lib.hid (show (sesL ((l.map FT.x).take k)).length ≤ 100000 from by rw [sesL_len, List.length_take, List.length_map]; have := HL.out; omega)
      clear hb5 hg5 hs5
      go_wp2_with (at_mapUpdate; refine wpList_store_u rfl (.tmp 14) (.tmp 16) (.const (.bool true)) rfl w.heap.size _ rfl HM5.out HLn.out (y.s : Int) rfl rfl HO.out ?_)
      intro w7 hm7 hg7
      have HM7 := Lib.hid (show MapU w7 w.heap.size (sesL ((l.map FT.x).take (k + 1))) from by rw [HT.out]; exact hm7)
      have HR7 := Lib.hid (HR5.out.keep (w1 := w7) (fun j o hj ho => (hg7.block j (Array.getElem?_eq_some_iff.1 hj).1 (fun e => by
        have e : j = w.heap.size := Option.some.inj e
        obtain ⟨D, ⟨es, cl, hb, _⟩, _⟩ := HM5.out
        rw [← e, hj] at hb
        injection hb with hb
        subst hb
        cases ho)).trans hj))
      have HB7 := Lib.hid (HB5.out.grown hg7 HB5.out.size (fun j hj => by cases hj; exact Nat.le_refl _))
      clear hm7 hg7 d1 c0 c1' c2 c3 c4 c5 c6 c7 c8 c9 c10
      go_wp2_with fail
      case roundEnd =>
        exact ⟨⟨k + 1, by omega, by push_cast; rfl, HM7, HR7, HB7⟩, by simp only [intOf]; omega⟩
    · obtain rfl : k = l.length := by omega
      have HM2 := Lib.hid (show MapU wr w.heap.size (sesL F) from by have := HM.out; rwa [List.take_of_length_le (by rw [List.length_map]; exact Nat.le_refl _), HE.out] at this)
      obtain ⟨hb9, hg9, hs9⟩ := alloc1 wr #[.map (some w.heap.size)] 75
      have HSo := Lib.hid (sorted_any n HS.out wr.heap.size (sesL F) (wr.alloc (.cells #[.map (some w.heap.size)] 75)) (by rw [hs9]; omega) (by rw [sesL_len, ← HX.out, List.length_map]; have := HL.out; omega) Hn.out
        (fun w0 hw0 => keys1_any wr.heap.size w.heap.size (sesL F) w0 ((hw0.block _ (by rw [hs9]; omega)).trans hg9) ((HM2.out.alloc _).below hw0)))
      have HB9 := Lib.hid (HB.out.trans (hb9.mono (B' := w.heap.size) HB.out.size))
      clear hb9 hg9 hs9 HM
      go_wp2_with fail
      refine (keys_any w.heap.size wr).mono ?_
      rintro e w8 ⟨rfl, hw8⟩
      rw [hw8] at HSo HB9
      clear hw8
      go_wp2_with fail
      refine HSo.out.mono ?_
      rintro e w9 ⟨ss, A9, c9, h1, h2, rfl, h3, h4, h5⟩
      have H1 := Lib.hid h1
      have H2 := Lib.hid h2
      have H3 := Lib.hid h3
      have H4 := Lib.hid h4
      have HBf := Lib.hid (HB9.out.trans (h5.mono (B' := w.heap.size) HB9.out.size))
      clear h1 h2 h3 h4 h5 HSo
      go_wp2_with fail
      go_ret
      exact ⟨ss, A9, c9, H1.out, H2.out, rfl, H3.out, fun k hk => Nat.le_trans HB9.out.size (H4.out k hk), HBf.out⟩
end Go.Proofs.Ytebcginnnjigjaa

end
section
/- Frames compared, one by one. -/
open Go.RowKit Go.Shelf
namespace Go.Proofs.Ytebcginnnjigjaa
set_option maxHeartbeats 8000000 in
set_option maxRecDepth 100000 in
theorem sameFrames_any (w : World) (A B : Option Addr) (c d : Nat) (l m : List FT) (h1 : FRow w A c l) (h2 : FRow w B d m) (he : l.map FT.x = m.map FT.x) (hl : ∀ t ∈ l, t.x.l.length ≤ 2000000) (h1k : l.length ≤ 1000) :
    Calls Try.prog 10 #[.slice A l.length c, .slice B m.length d] w fun e w' => e = .returned (.bool true) ∧ Below w.heap.size w w' := by
  have hml : m.length = l.length := by
    have h := congrArg List.length he
    rw [List.length_map, List.length_map] at h
    exact h.symm
  rw [hml]
  have H1 := Lib.hid h1
  have H2 := Lib.hid h2
  have Hl := Lib.hid hl
  have He := Lib.hid he
  have Hml := Lib.hid hml
  clear h1 h2 he hl hml
  go_enter Try.func10, Try.ntmps10
  go_wp2_with fail
  go_loopw [5] (fun i wr => ∃ k : Nat, k ≤ l.length ∧ i = .int .i64 k ∧ Hid (Below w.heap.size w wr)) (fun i _ => l.length - (intOf i).toNat)
  case atStart => exact ⟨0, Nat.zero_le _, rfl, Lib.hid (Below.refl _ _)⟩
  case round =>
    obtain ⟨k, hk, rfl, Hb⟩ := hrel
    by_cases hlt : k < l.length
    · have hlm : k < m.length := by rw [Hml.out]; exact hlt
      have g1 := H1.out.below Hb.out
      have g2 := H2.out.below Hb.out
      obtain ⟨a, hA, _⟩ := g1.form (by omega)
      subst hA
      obtain ⟨b, hB, _⟩ := g2.form (by omega)
      subst hB
      obtain ⟨a0, a1, a2, a3, a4, a5, a6, a7, a8, a9, a10⟩ := g1.cells hlt
      obtain ⟨b0, b1, b2, b3, b4, b5, b6, b7, b8, b9, b10⟩ := g2.cells hlm
      have hx : l[k].x = m[k].x := by
        have h := List.getElem_of_eq He.out (i := k) (by rw [List.length_map]; exact hlt)
        simpa using h
      rw [← hx] at b0 b1 b2 b3 b4 b5 b6 b7 b8 b9 b10
      have HAl := Lib.hid (fun W (hW : Below wr.heap.size wr W) => refAlike_any l[k].x l[k].x l[k].A m[k].A l[k].c m[k].c W ((g1.2 l[k] (List.getElem_mem hlt)).below hW).reads (by rw [hx]; exact ((g2.2 m[k] (List.getElem_mem hlm)).below hW).reads) (Hl.out l[k] (List.getElem_mem hlt)))
      rw [(alikeB_iff l[k].x l[k].x).2 rfl] at HAl
      generalize l[k].x = x at a0 a1 a2 a3 a4 a5 a6 a7 a8 a9 a10 b0 b1 b2 b3 b4 b5 b6 b7 b8 b9 b10 HAl
      clear hx
      generalize l[k].A = Ax at a10 HAl
      generalize m[k].A = Ay at b10 HAl
      generalize l[k].c = cx at a10 HAl
      generalize m[k].c = cy at b10 HAl
      clear g1 g2 hlm
      go_wp2_with fail
      have s0 := fun w' (hk : KeepsBut [] wr.drew w') => hk.cell (p := ⟨a, k * 11, none⟩) a0 (by simp)
      have s1 := fun w' (hk : KeepsBut [] wr.drew w') => hk.cell (p := ⟨a, k * 11 + 1, none⟩) a1 (by simp)
      have s2 := fun w' (hk : KeepsBut [] wr.drew w') => hk.cell (p := ⟨a, k * 11 + 2, none⟩) a2 (by simp)
      have s3 := fun w' (hk : KeepsBut [] wr.drew w') => hk.cell (p := ⟨a, k * 11 + 3, none⟩) a3 (by simp)
      have s4 := fun w' (hk : KeepsBut [] wr.drew w') => hk.cell (p := ⟨a, k * 11 + 4, none⟩) a4 (by simp)
      have s5 := fun w' (hk : KeepsBut [] wr.drew w') => hk.cell (p := ⟨a, k * 11 + 5, none⟩) a5 (by simp)
      have s6 := fun w' (hk : KeepsBut [] wr.drew w') => hk.cell (p := ⟨a, k * 11 + 6, none⟩) a6 (by simp)
      have s7 := fun w' (hk : KeepsBut [] wr.drew w') => hk.cell (p := ⟨a, k * 11 + 7, none⟩) a7 (by simp)
      have s8 := fun w' (hk : KeepsBut [] wr.drew w') => hk.cell (p := ⟨a, k * 11 + 8, none⟩) a8 (by simp)
      have s9 := fun w' (hk : KeepsBut [] wr.drew w') => hk.cell (p := ⟨a, k * 11 + 9, none⟩) a9 (by simp)
      have s10 := fun w' (hk : KeepsBut [] wr.drew w') => hk.cell (p := ⟨a, k * 11 + 10, none⟩) a10 (by simp)
      have t0 := fun w' (hk : KeepsBut [] wr.drew w') => hk.cell (p := ⟨b, k * 11, none⟩) b0 (by simp)
      have t1 := fun w' (hk : KeepsBut [] wr.drew w') => hk.cell (p := ⟨b, k * 11 + 1, none⟩) b1 (by simp)
      have t2 := fun w' (hk : KeepsBut [] wr.drew w') => hk.cell (p := ⟨b, k * 11 + 2, none⟩) b2 (by simp)
      have t3 := fun w' (hk : KeepsBut [] wr.drew w') => hk.cell (p := ⟨b, k * 11 + 3, none⟩) b3 (by simp)
      have t4 := fun w' (hk : KeepsBut [] wr.drew w') => hk.cell (p := ⟨b, k * 11 + 4, none⟩) b4 (by simp)
      have t5 := fun w' (hk : KeepsBut [] wr.drew w') => hk.cell (p := ⟨b, k * 11 + 5, none⟩) b5 (by simp)
      have t6 := fun w' (hk : KeepsBut [] wr.drew w') => hk.cell (p := ⟨b, k * 11 + 6, none⟩) b6 (by simp)
      have t7 := fun w' (hk : KeepsBut [] wr.drew w') => hk.cell (p := ⟨b, k * 11 + 7, none⟩) b7 (by simp)
      have t8 := fun w' (hk : KeepsBut [] wr.drew w') => hk.cell (p := ⟨b, k * 11 + 8, none⟩) b8 (by simp)
      have t9 := fun w' (hk : KeepsBut [] wr.drew w') => hk.cell (p := ⟨b, k * 11 + 9, none⟩) b9 (by simp)
      have t10 := fun w' (hk : KeepsBut [] wr.drew w') => hk.cell (p := ⟨b, k * 11 + 10, none⟩) b10 (by simp)
      clear a0 a1 a2 a3 a4 a5 a6 a7 a8 a9 a10 b0 b1 b2 b3 b4 b5 b6 b7 b8 b9 b10
      have HB2 := Lib.hid (show Below wr.heap.size wr wr.drew from (Below.refl wr.heap.size wr).drew)
      have HAl := Lib.hid (HAl.out _ HB2.out)
      unfold Fr.cells at HAl
      refine wp_region_mix3 (KeepsBut []) (KeepsBut.refl []) (KeepsBut.trans []) [8] [(0, 0), (0, 1), (0, 2), (0, 4), (0, 5), (0, 6), (1, 3), (1, 7), (2, 8), (0, 9)] (by kernel_rfl) (by kernel_rfl) (fun d _ _ _ _ h => by cases d <;> exact h) ?_
      generalize wr.drew = w2 at HB2 HAl s0 s1 s2 s3 s4 s5 s6 s7 s8 s9 s10 t0 t1 t2 t3 t4 t5 t6 t7 t8 t9 t10 ⊢
      repeat ((first | (refine mix3_free (v := ?_) rfl rfl ?_ (mix3_norm (a' := ?_) ?_ ?_); rotate_left; focus (intro w'; go_simp; first | done | (with_reducible rfl))) | (refine mix3_pure (v := ?_) rfl rfl ?_ (mix3_norm (a' := ?_) ?_ ?_); rotate_left; focus (intro w' hR; go_simp; first | done | (with_reducible rfl))) | refine mix3_freeOff rfl rfl (mix3_norm (a' := ?_) ?_ ?_) | refine mix3_off rfl rfl (mix3_norm (a' := ?_) ?_ ?_)); rotate_left; focus (simp only [Act.put, List.getElem_toArray, List.getElem_cons_zero, List.getElem_cons_succ, List.setIfInBounds_toArray, List.set_cons_zero, List.set_cons_succ]; rfl))
      clear s0 s1 s2 s3 s4 s5 s6 s7 s8 s9 s10 t0 t1 t2 t3 t4 t5 t6 t7 t8 t9 t10
      refine mix3_eff rfl ?_
      simp only [List.getElem_toArray, List.getElem_cons_zero, List.getElem_cons_succ]
      go_wp2_with fail
      refine HAl.out.mono ?_
      rintro e w3 ⟨rfl, hb3⟩
      have Hb3 := Lib.hid (Hb.out.trans ((HB2.out.trans (hb3.mono (B' := wr.heap.size) HB2.out.size)).mono (B' := w.heap.size) Hb.out.size))
      clear hb3 HAl
      go_wp2_with fail
      refine mixQ3_last (by simp) rfl ?_
      repeat ((first | (refine mix3_free (v := ?_) rfl rfl ?_ (mix3_norm (a' := ?_) ?_ ?_); rotate_left; focus (intro w'; go_simp; first | done | (with_reducible rfl))) | (refine mix3_pure (v := ?_) rfl rfl ?_ (mix3_norm (a' := ?_) ?_ ?_); rotate_left; focus (intro w' hR; go_simp; first | done | (with_reducible rfl))) | refine mix3_freeOff rfl rfl (mix3_norm (a' := ?_) ?_ ?_) | refine mix3_off rfl rfl (mix3_norm (a' := ?_) ?_ ?_)); rotate_left; focus (simp only [Act.put, List.getElem_toArray, List.getElem_cons_zero, List.getElem_cons_succ, List.setIfInBounds_toArray, List.set_cons_zero, List.set_cons_succ]; rfl))
      refine mix3_done ?_
      go_wp2_with fail
      case roundEnd =>
        exact ⟨⟨k + 1, by omega, by push_cast; rfl, Hb3⟩, by simp only [intOf]; omega⟩
    · have hke : k = l.length := by omega
      subst hke
      go_wp2_with fail
      go_ret
      exact ⟨rfl, Hb.out⟩
end Go.Proofs.Ytebcginnnjigjaa

end
