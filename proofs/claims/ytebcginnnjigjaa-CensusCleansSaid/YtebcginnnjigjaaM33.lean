import Derived.Test.YtebcginnnjigjaaM32
import Derived.Test.YtebcginnnjigjaaM20
import Derived.Test.YtebcginnnjigjaaM26
section
/- The document's net is cleaned: walked. -/
open Go.RowKit
namespace Go.Proofs.Ytebcginnnjigjaa

theorem NetRPost.step {w w1 w2 : World} {g : Nat} {A A1 : Option Addr} {σ : Nt} (h2 : ∀ k, blk A1 = some k → blk A = some k ∨ w.heap.size ≤ k) (h3 : Chg (Foot g A) w w1) (hp : NetRPost w1 g A1 σ w2) : NetRPost w g A σ w2 := by
  obtain ⟨A2, c2, hN, k2, C⟩ := hp
  refine ⟨A2, c2, hN, fun k hk => ?_, h3.trans C (fun i hi hf => ?_)⟩
  · rcases k2 k hk with h | h
    · exact h2 k h
    · exact .inr (Nat.le_trans h3.size h)
  · rcases hf with hf | hf
    · exact .inl hf
    · rcases h2 i hf with h | h
      · exact .inr h
      · omega
theorem NetRPost.keep {w w1 w2 : World} {g : Nat} {A : Option Addr} {σ : Nt} (h : NetRPost w g A σ w1) (hb : Below w1.heap.size w1 w2) : NetRPost w g A σ w2 := by
  obtain ⟨A1, c1, hN, k1, C⟩ := h
  exact ⟨A1, c1, hN.chg (F := fun _ => False) (.of_below hb) (fun _ _ f => f), k1, C.trans (Chg.of_below (F := fun _ => False) hb) (fun _ _ f => f.elim)⟩
/-- How many of the first are left. -/
def lef (z : Int) (σ : Nt) (m : Nat) : Nat := ((σ.ps.take m).filter (keepB z)).length
def clR (z : Int) (σ : Nt) (m : Nat) : Nt := ⟨σ.s, σ.c, σ.l + (gone z (σ.ps.take m) : Nat), (σ.ps.take m).filter (keepB z) ++ σ.ps.drop m⟩
section
variable {z : Int} {σ : Nt}
theorem clR_zero : clR z σ 0 = σ := by unfold clR gone; simp
theorem clR_full : clR z σ σ.ps.length = cleanN z σ := by unfold clR cleanN; simp
theorem lef_le (m : Nat) : lef z σ m ≤ m := by
  unfold lef
  have := List.length_filter_le (keepB z) (σ.ps.take m)
  rw [List.length_take] at this
  omega
theorem gone_lef (m : Nat) : gone z (σ.ps.take m) + lef z σ m ≤ m := by
  have h := List.length_eq_countP_add_countP (keepB z) (l := σ.ps.take m)
  rw [List.length_take] at h
  unfold gone lef
  rw [← List.countP_eq_length_filter]
  simp only [Bool.not_eq_true, ← Bool.not_eq_true', Bool.decide_eq_true] at h
  have e : (List.take m σ.ps).countP (fun a => decide ¬ (keepB z a = true)) = (List.take m σ.ps).countP (fun p => !keepB z p) := by
    congr 1; funext p; cases keepB z p <;> rfl
  simp only [Bool.not_eq_true] at e
  omega
theorem clR_length (m : Nat) : (clR z σ m).ps.length = lef z σ m + (σ.ps.length - m) := by
  unfold clR lef
  rw [List.length_append, List.length_drop]
theorem clR_at {m : Nat} (hm : m < σ.ps.length) (h : lef z σ m < (clR z σ m).ps.length) : (clR z σ m).ps[lef z σ m] = σ.ps[m] := by
  have e : (clR z σ m).ps[lef z σ m]? = some σ.ps[m] := by
    show ((σ.ps.take m).filter (keepB z) ++ σ.ps.drop m)[lef z σ m]? = _
    unfold lef
    rw [List.getElem?_append_right (Nat.le_refl _)]
    rw [Nat.sub_self, drop_cons hm]
    rfl
  rw [List.getElem?_eq_getElem h] at e
  exact Option.some.inj e
theorem clR_keep {m : Nat} (hm : m < σ.ps.length) (h : keepB z σ.ps[m] = true) : clR z σ (m + 1) = clR z σ m ∧ gone z (σ.ps.take (m + 1)) = gone z (σ.ps.take m) ∧ lef z σ (m + 1) = lef z σ m + 1 := by
  have hf : (σ.ps.take (m + 1)).filter (keepB z) = (σ.ps.take m).filter (keepB z) ++ [σ.ps[m]] := by rw [take_snoc hm, List.filter_append]; simp [h]
  have hg : gone z (σ.ps.take (m + 1)) = gone z (σ.ps.take m) := by rw [take_snoc hm]; unfold gone; rw [List.countP_append]; simp [h]
  refine ⟨?_, hg, ?_⟩
  · unfold clR
    rw [hg, hf, List.append_assoc, drop_cons hm]
    rfl
  · unfold lef
    rw [hf]
    simp
theorem clR_lose {m : Nat} (hm : m < σ.ps.length) (h : keepB z σ.ps[m] = false) : loseN (clR z σ m) (lef z σ m : Nat) = clR z σ (m + 1) ∧ gone z (σ.ps.take (m + 1)) = gone z (σ.ps.take m) + 1 ∧ lef z σ (m + 1) = lef z σ m := by
  have hf : (σ.ps.take (m + 1)).filter (keepB z) = (σ.ps.take m).filter (keepB z) := by rw [take_snoc hm, List.filter_append]; simp [h]
  have hg : gone z (σ.ps.take (m + 1)) = gone z (σ.ps.take m) + 1 := by rw [take_snoc hm]; unfold gone; rw [List.countP_append]; simp [h]
  refine ⟨?_, hg, by unfold lef; rw [hf]⟩
  rw [loseN_in (by rw [clR_length]; omega)]
  unfold clR
  simp only
  rw [hg, hf, drop_cons hm]
  have e1 : σ.l + ((gone z (σ.ps.take m) : Nat) : Int) + 1 = σ.l + ((gone z (σ.ps.take m) + 1 : Nat) : Int) := by push_cast; omega
  unfold lef
  rw [e1, List.eraseIdx_append_of_length_le (Nat.le_refl _), Nat.sub_self]
  rfl
theorem clR_ok {k : Nat} (h1 : 0 ≤ σ.s ∧ σ.s ≤ 1000) (h2 : 0 ≤ σ.c ∧ σ.c ≤ 1000) (h3 : 0 ≤ σ.l ∧ σ.l ≤ 1000) (h4 : σ.ps.length ≤ 60) : (clR z σ k).ok := by
  have hg := gone_le z (σ.ps.take k)
  rw [List.length_take] at hg
  have hf := List.length_filter_le (keepB z) (σ.ps.take k)
  rw [List.length_take] at hf
  unfold Nt.ok clR
  simp only
  refine ⟨⟨h1.1, by omega⟩, ⟨h2.1, by omega⟩, ⟨by omega, by omega⟩, ?_⟩
  rw [List.length_append, List.length_drop]
  omega
end
set_option maxHeartbeats 4000000 in
set_option maxRecDepth 100000 in
theorem refClean_any (w : World) (g : Nat) (A : Option Addr) (c : Nat) (σ : Nt) (h : NetR w g A c σ) (hp : PkOk σ.ps) (h1 : 0 ≤ σ.s ∧ σ.s ≤ 1000) (h2 : 0 ≤ σ.c ∧ σ.c ≤ 1000) (h3 : 0 ≤ σ.l ∧ σ.l ≤ 1000) (h4 : σ.ps.length ≤ 60) (z : Int) :
    Calls Try.prog 17 #[.pointer (some ⟨g, 0, none⟩), .int .u64 z] w fun e w' => e = .returned (.int .i64 (gone z σ.ps : Nat)) ∧ NetRPost w g A (cleanN z σ) w' := by
  have Hp := Lib.hid hp
  have HOk := Lib.hid (fun k => clR_ok (z := z) (σ := σ) (k := k) h1 h2 h3 h4)
  have HN : Hid (NetRPost w g A (clR z σ 0) w) := Lib.hid (by rw [clR_zero]; exact NetR.same (.refl _ _) h)
  have H4 := Lib.hid h4
  clear h hp h1 h2 h3 h4
  go_enter Try.func17, Try.ntmps17
  go_wp2_with fail
  go_loopw [5, 6] (fun v i wr => ∃ m : Nat, m ≤ σ.ps.length ∧ v = .int .i64 (gone z (σ.ps.take m) : Nat) ∧ i = .int .i64 (lef z σ m : Nat) ∧ Hid (NetRPost w g A (clR z σ m) wr)) (fun v i _ => (60 - (intOf v + intOf i)).toNat)
  case atStart => exact ⟨0, Nat.zero_le _, rfl, rfl, HN⟩
  case round =>
    clear HN
    obtain ⟨m, hm, rfl, rfl, HN⟩ := hrel
    have hk4 := H4.out
    have hml := lef_le (z := z) (σ := σ) m
    have hmg := gone_le z (σ.ps.take m)
    rw [List.length_take] at hmg
    have hGb : gone z (σ.ps.take m) ≤ 60 := by omega
    have hLb : lef z σ m ≤ 60 := by omega
    obtain ⟨A1, c1, hN, k1, C1⟩ := HN.out
    obtain ⟨⟨q0, _, _, _⟩, _⟩ := hN.cells
    have hlen := clR_length (z := z) (σ := σ) m
    by_cases hmm : m < σ.ps.length
    · have hGL : gone z (σ.ps.take m) + lef z σ m < 60 := by have := gone_lef (z := z) (σ := σ) m; omega
      have hlt : lef z σ m < (clR z σ m).ps.length := by omega
      have HM := Lib.hid hmm
      have HSz := Lib.hid (Hp.out σ.ps[m] (List.getElem_mem hmm)).2
      obtain ⟨b, rfl, hbl⟩ := hN.2.1.form (by omega)
      obtain ⟨_, p1, _, _⟩ := hN.2.1.cell (lef z σ m) hlt
      rw [clR_at hmm hlt] at p1
      have HK := Lib.hid (fun h => clR_keep (z := z) hmm h)
      have HLo := Lib.hid (fun h => clR_lose (z := z) hmm h)
      have hE := hasE_in (show inN (clR z σ m) (lef z σ m : Nat) by unfold inN; omega)
      have hNl := Lib.hid (fun W (hC : Below wr.heap.size wr W) => refLose_any W g (some ⟨b, 0, none⟩) c1 _ (HOk.out m) (hN.chg (F := fun _ => False) (.of_below hC) (fun _ _ f => f)) (lef z σ m : Nat))
      rw [hE] at hNl
      obtain ⟨M, hM⟩ : ∃ M, (clR z σ m).ps.length = M := ⟨_, rfl⟩
      rw [hM] at q0 hlt
      have hMb : M ≤ 60 := by have := (HOk.out m).2.2.2; omega
      have hsz : σ.ps[m].2.size ≤ 1000000 := by have := HSz.out; omega
      have hHG := Lib.hid (fun W => refFrGet_any W σ.ps[m].2 hsz)
      generalize σ.ps[m] = p at p1 HSz HK HLo hHG
      obtain ⟨x, s⟩ := p
      simp only at p1 hHG
      have HK1 := Lib.hid k1
      have HC1 := Lib.hid C1
      have HN1 := Lib.hid hN
      clear hN k1 C1 hml hmg hlen hE hbl hsz hM hm hmm
      generalize gone z (σ.ps.take m) = G at hGb hGL HK HLo ⊢
      generalize lef z σ m = L at hLb hGL HK HLo hNl p1 hlt ⊢
      go_wp2_with fail
      have HG := Lib.hid (hHG.out wr)
      have HKe : Hid (keepB z (x, s) = (decide (getE (bl s) = 0) && decide (((getX (bl s)).s : Int) = z))) := Lib.hid rfl
      generalize getX (bl s) = y at HG HKe
      obtain ⟨e1, he1⟩ : ∃ e1, getE (bl s) = e1 := ⟨_, rfl⟩
      rw [he1] at HG HKe
      unfold Fr.cells at HG
      clear he1 p1 q0 hHG
      refine HG.out.mono ?_
      rintro e W4 ⟨A4, c4, rfl, ho⟩
      have hb4 := ho.2.2
      obtain ⟨hb5, hg5, hs5⟩ := alloc1 W4 #[.int .i64 y.k, .int .u64 (y.s : Int), .int .u64 (y.e : Int), .int .u32 (y.q : Int), .int .u32 (y.v : Int), .int .i64 y.n, .int .i64 y.f, .int .i64 y.i, .int .i64 y.c, .string y.d, .slice A4 y.l.length c4] 58
      obtain ⟨_, d1, _⟩ := cells11 hg5
      have HB5 := Lib.hid (hb4.trans (hb5.mono (B' := wr.heap.size) hb4.size))
      clear ho hb4 hb5 hg5 hs5 HG
      by_cases he : e1 = 0
      · subst he
        rw [show ((0 : Nat) : Int) = 0 from rfl]
        by_cases hz : (y.s : Int) = z
        · have hzz : ((y.s : Int) != z) = false := by rw [bne_eq_false_iff_eq]; exact hz
          have HKt := Lib.hid (HK.out (by rw [HKe.out]; simp [hz]))
          clear hz
          go_wp2_with fail
          case roundEnd =>
            exact ⟨⟨m + 1, HM.out, by rw [HKt.out.2.1], by rw [HKt.out.2.2]; push_cast; rfl, Lib.hid (by rw [HKt.out.1]; exact NetRPost.keep ⟨_, _, HN1.out, HK1.out, HC1.out⟩ HB5.out)⟩, by simp only [intOf]; omega⟩
        · have hzz : ((y.s : Int) != z) = true := by rw [bne_iff_ne]; exact hz
          have HKf := Lib.hid (show keepB z (x, s) = false from by rw [HKe.out]; simp [hz])
          clear hz
          go_wp2_with fail
          clear hzz d1
          have HLs := Lib.hid (hNl.out _ HB5.out)
          go_wp2_with fail
          refine HLs.out.mono ?_
          rintro e w6 ⟨rfl, hP⟩
          rw [(HLo.out HKf.out).1] at hP
          have HP := Lib.hid (hP.step (fun k hk => HK1.out k hk) (HC1.out.trans (Chg.of_below (F := fun _ => False) HB5.out) (fun _ _ f => f.elim)))
          have HG2 := Lib.hid (HLo.out HKf.out).2
          clear hP HLs
          rw [show ((0 : Nat) : Int) = 0 from rfl]
          go_wp2_with fail
          case roundEnd =>
            exact ⟨⟨m + 1, HM.out, by rw [HG2.out.1]; push_cast; rfl, by rw [HG2.out.2], HP⟩, by simp only [intOf]; omega⟩
      · have hzz : ((e1 : Int) != 0) = true := by rw [bne_iff_ne]; omega
        have HKf := Lib.hid (show keepB z (x, s) = false from by rw [HKe.out]; simp [he])
        clear he
        go_wp2_with fail
        clear hzz d1
        have HLs := Lib.hid (hNl.out _ HB5.out)
        go_wp2_with fail
        refine HLs.out.mono ?_
        rintro e w6 ⟨rfl, hP⟩
        rw [(HLo.out HKf.out).1] at hP
        have HP := Lib.hid (hP.step (fun k hk => HK1.out k hk) (HC1.out.trans (Chg.of_below (F := fun _ => False) HB5.out) (fun _ _ f => f.elim)))
        have HG2 := Lib.hid (HLo.out HKf.out).2
        clear hP HLs
        rw [show ((0 : Nat) : Int) = 0 from rfl]
        go_wp2_with fail
        case roundEnd =>
          exact ⟨⟨m + 1, HM.out, by rw [HG2.out.1]; push_cast; rfl, by rw [HG2.out.2], HP⟩, by simp only [intOf]; omega⟩
    · have hme : m = σ.ps.length := by omega
      subst hme
      have hge : ((clR z σ σ.ps.length).ps.length : Int) ≤ (lef z σ σ.ps.length : Nat) := by omega
      have HF : Hid (NetRPost w g A (cleanN z σ) wr) := Lib.hid (by rw [← clR_full]; exact HN.out)
      rw [List.take_length] at *
      clear hN k1 C1 hml hmg hlen
      obtain ⟨M, hM⟩ : ∃ M, (clR z σ σ.ps.length).ps.length = M := ⟨_, rfl⟩
      rw [hM] at q0 hge
      obtain ⟨L, hL⟩ : ∃ L, lef z σ σ.ps.length = L := ⟨_, rfl⟩
      rw [hL] at hge hLb ⊢
      go_wp2_with fail
      go_ret
      exact ⟨rfl, HF.out⟩
end Go.Proofs.Ytebcginnnjigjaa

end
section
/- The census' law: packets that are few and short; laid on two nets. -/
open Go.RowKit
namespace Go.Proofs.Ytebcginnnjigjaa

theorem addr_next (a : Addr) (n : Nat) : (⟨(a.add n).block, (a.add n).off + 1, none⟩ : Addr) = a.add (n + 1) := by
  unfold Addr.add
  by_cases hn : n = 0
  · subst hn; rfl
  · simp [hn, Nat.add_assoc]
theorem pk_cells {w : World} {A : Option Addr} {ps : List (Int × ByteArray)} (h : Reads w 2 A ps.length (pks ps)) {k : Nat} (hk : k < ps.length) : ∃ ad : Addr, A = some ad ∧ w.cell? (ad.add (k * 2)) = some (.int .i64 ps[k].1) ∧ w.cell? ⟨(ad.add (k * 2)).block, (ad.add (k * 2)).off + 1, none⟩ = some (.string ps[k].2) := by
  obtain ⟨ad, rfl, hc⟩ := h.2 (by omega)
  refine ⟨ad, rfl, hc _ _ (pks_get0 ps k hk), ?_⟩
  rw [addr_next]
  exact hc _ _ (pks_get1 ps k hk)
def shortP (ls : List (Int × ByteArray)) : Bool := decide (ls.length ≤ 80) && ls.all fun a => decide (a.2.size ≤ 300)
theorem shortP_long {ls : List (Int × ByteArray)} (h : 80 < ls.length) : shortP ls = false := by unfold shortP; rw [decide_eq_false (by omega)]; rfl
theorem shortP_bad {ls : List (Int × ByteArray)} {k : Nat} (hk : k < ls.length) (h : 300 < ls[k].2.size) : shortP ls = false := by
  unfold shortP
  rw [Bool.and_eq_false_iff]; right
  rw [List.all_eq_false]
  exact ⟨ls[k], List.getElem_mem _, by simp; omega⟩
theorem shortP_ok {ls : List (Int × ByteArray)} (h : ls.length ≤ 80) (hk : ∀ k (hk : k < ls.length), ls[k].2.size ≤ 300) : shortP ls = true := by
  unfold shortP
  rw [decide_eq_true h, Bool.true_and, List.all_eq_true]
  intro a ha
  obtain ⟨k, hk', rfl⟩ := List.mem_iff_getElem.1 ha
  exact decide_eq_true (hk k hk')
theorem shortP_len {ls : List (Int × ByteArray)} (h : shortP ls = true) : ls.length ≤ 80 ∧ ∀ k (hk : k < ls.length), ls[k].2.size ≤ 300 := by
  unfold shortP at h
  rw [Bool.and_eq_true, List.all_eq_true] at h
  exact ⟨of_decide_eq_true h.1, fun k hk => of_decide_eq_true (h.2 _ (List.getElem_mem hk))⟩
set_option maxRecDepth 100000 in
theorem shortP_any (w : World) (A : Option Addr) (ls : List (Int × ByteArray)) (c : Nat) (hr : Reads w 2 A ls.length (pks ls)) :
    Calls Try.prog 5 #[.slice A ls.length c] w fun e w' => e = .returned (.bool (shortP ls)) ∧ w = w' := by
  have Hr := Lib.hid hr
  clear hr
  by_cases hl : 80 < ls.length
  · have H := Lib.hid (shortP_long hl)
    go_enter Try.func5, Try.ntmps5
    go_wp2_with fail
    go_ret
    exact ⟨by rw [H.out]; rfl, rfl⟩
  · go_enter Try.func5, Try.ntmps5
    go_wp2_with fail
    go_loopw [3] (fun i wr => ∃ k : Nat, k ≤ ls.length ∧ i = .int .i64 k ∧ Hid (∀ j (hj : j < ls.length), j < k → ls[j].2.size ≤ 300) ∧ Hid (w = wr)) (fun i _ => ls.length - (intOf i).toNat)
    case atStart => exact ⟨0, Nat.zero_le _, rfl, Lib.hid (fun j _ hj => by omega), Lib.hid rfl⟩
    case round =>
      obtain ⟨k, hk, rfl, Hp, Hw⟩ := hrel
      have hw := Hw.out
      subst hw
      by_cases hlt : k < ls.length
      · obtain ⟨ad, rfl, _, hc⟩ := pk_cells Hr.out hlt
        by_cases hb : 300 < ls[k].2.size
        · have H := Lib.hid (shortP_bad hlt hb)
          generalize ls[k].2 = b at hb hc
          go_wp2_with fail
          go_ret
          exact ⟨by rw [H.out]; rfl, rfl⟩
        · have H := Lib.hid (show ∀ j (hj : j < ls.length), j < k + 1 → ls[j].2.size ≤ 300 from fun j hj hjk => by
            by_cases h : j = k
            · subst h; omega
            · exact Hp.out j hj (by omega))
          generalize ls[k].2 = b at hb hc
          go_wp2_with fail
          case roundEnd =>
            exact ⟨⟨k + 1, by omega, by push_cast; rfl, H, Lib.hid (by trivial)⟩, by simp only [intOf]; omega⟩
      · obtain rfl : k = ls.length := by omega
        have H := Lib.hid (shortP_ok (by omega) (fun j hj => Hp.out j hj hj))
        go_wp2_with fail
        go_ret
        exact ⟨by rw [H.out]; rfl, rfl⟩

/-- Both nets stand above B; all below it is as it was. -/
structure DuoC (B : Nat) (w0 w : World) (g : Nat) (A : Option Addr) (c : Nat) (g' : Nat) (A' : Option Addr) (c' : Nat) (σ : Nt) : Prop where
  d : Duo w g A c g' A' c' σ σ
  b : Below B w0 w
  f : ∀ i, F2 g A g' A' i → B ≤ i
theorem DuoC.next {B : Nat} {w0 w w' : World} {g : Nat} {A : Option Addr} {c : Nat} {g' : Nat} {A' : Option Addr} {c' : Nat} {σ σ' : Nt} (h : DuoC B w0 w g A c g' A' c' σ) (hB : B ≤ w0.heap.size) (hp : DuoPost w g A g' A' σ' w') :
    ∃ A1 c1 A2 c2, DuoC B w0 w' g A1 c1 g' A2 c2 σ' := by
  obtain ⟨A1, c1, A2, c2, hd, n1, n2, C⟩ := hp
  have hs : B ≤ w.heap.size := Nat.le_trans hB h.b.size
  refine ⟨A1, c1, A2, c2, hd, h.b.trans (C.below (fun i hi hf => by have := h.f i hf; omega) hs), fun i hi => ?_⟩
  rcases hi with (hi | hi) | (hi | hi)
  · exact h.f i (.inl (.inl hi))
  · rcases n1 i hi with h1 | h1
    · exact h.f i (.inl (.inr h1))
    · omega
  · exact h.f i (.inr (.inl hi))
  · rcases n2 i hi with h1 | h1
    · exact h.f i (.inr (.inr h1))
    · omega
theorem DuoC.keep {B : Nat} {w0 w w' : World} {g : Nat} {A : Option Addr} {c : Nat} {g' : Nat} {A' : Option Addr} {c' : Nat} {σ : Nt} (h : DuoC B w0 w g A c g' A' c' σ) (hB : B ≤ w0.heap.size) (hb : Below w.heap.size w w') : DuoC B w0 w' g A c g' A' c' σ :=
  ⟨h.d.chg (F := fun _ => False) (.of_below hb) (fun _ _ f => f), h.b.trans (hb.mono (B' := B) (Nat.le_trans hB h.b.size)), h.f⟩
/-- Both nets at the start. -/
theorem duoC_start (w w1 : World) (hN : NetP w1 w.heap.size none 0 Nt.none) (hb : Below w.heap.size w w1) (hs : w1.heap.size = w.heap.size + 1) :
    DuoC w.heap.size w (w1.alloc (.cells #[.slice none 0 0, .int .i64 0, .int .i64 0, .int .i64 0] 49)) w.heap.size none 0 (w.heap.size + 1) none 0 Nt.none := by
  obtain ⟨hb2, hg2, hs2⟩ := alloc1 w1 #[.slice none 0 0, .int .i64 0, .int .i64 0, .int .i64 0] 49
  rw [hs] at hg2
  refine ⟨⟨hN.chg (F := fun _ => False) (.of_below hb2) (fun _ _ f => f), ⟨hg2, PRow.nil _, by simp [blk]⟩, fun i hi hj => ?_⟩, hb.trans (hb2.mono (B' := w.heap.size) hb.size), fun i hi => ?_⟩
  · rcases hi with rfl | hi
    · rcases hj with hj | hj
      · omega
      · simp [blk] at hj
    · simp [blk] at hi
  · rcases hi with (hi | hi) | (hi | hi)
    · omega
    · simp [blk] at hi
    · omega
    · simp [blk] at hi
/-- A net with so many sent, of packets that are short. -/
def invP (σ : Nt) (k : Nat) : Prop := 0 ≤ σ.s ∧ σ.s ≤ (k : Int) ∧ σ.c = 0 ∧ 0 ≤ σ.l ∧ σ.l ≤ (k : Int) ∧ σ.ps.length ≤ 60 ∧ PkOk σ.ps
theorem invP_none : invP Nt.none 0 := ⟨Int.le_refl _, Int.le_refl _, rfl, Int.le_refl _, Int.le_refl _, Nat.zero_le _, fun _ h => by cases h⟩
theorem invP.ok {σ : Nt} {k : Nat} (h : invP σ k) (hk : k ≤ 900) : σ.ok := by
  obtain ⟨h1, h2, h3, h4, h5, h6, _⟩ := h
  exact ⟨⟨by omega, by omega⟩, ⟨by omega, by omega⟩, ⟨by omega, by omega⟩, h6⟩
theorem invP.step {σ : Nt} {k : Nat} (h : invP σ k) (tx : Int) (b : ByteArray) (hb : b.size ≤ 300) : invP (sendN σ tx b) (k + 1) := by
  obtain ⟨h1, h2, h3, h4, h5, h6, h7⟩ := h
  unfold sendN
  split
  · exact ⟨h1, by push_cast; omega, h3, h4, by push_cast; omega, h6, h7⟩
  · rename_i hto
    split
    · refine ⟨?_, ?_, h3, ?_, ?_, h6, h7⟩ <;> simp only <;> push_cast <;> omega
    · refine ⟨?_, ?_, h3, h4, ?_, ?_, fun p hp => ?_⟩
      · simp only; omega
      · simp only; push_cast; omega
      · simp only; push_cast; omega
      · simp only [List.length_append, List.length_cons, List.length_nil]; omega
      · simp only [List.mem_append, List.mem_singleton] at hp
        rcases hp with hp | rfl
        · exact h7 p hp
        · exact ⟨by simp only; omega, by simp only; omega⟩
set_option maxHeartbeats 4000000 in
set_option maxRecDepth 100000 in
theorem laid_any (w : World) (A0 : Option Addr) (ls : List (Int × ByteArray)) (c0 : Nat) (hr : Reads w 2 A0 ls.length (pks ls)) (hs : shortP ls = true) :
    Calls Try.prog 7 #[.slice A0 ls.length c0] w fun e w' => ∃ g A c g' A' c' σ, e = .returned (.tuple #[.pointer (some ⟨g, 0, none⟩), .pointer (some ⟨g', 0, none⟩)]) ∧ invP σ 80 ∧ DuoC w.heap.size w w' g A c g' A' c' σ := by
  have Hr := Lib.hid hr
  obtain ⟨hlen, hsz⟩ := shortP_len hs
  have Hsz := Lib.hid hsz
  clear hr hs hsz
  go_enter Try.func7, Try.ntmps7
  go_wp2_with fail
  refine (netNew_any w).mono ?_
  rintro e w1 ⟨rfl, hN, hb, hs⟩
  have H0 := Lib.hid (duoC_start w w1 hN hb hs)
  obtain ⟨g', hg'⟩ : ∃ g', g' = w1.heap.size := ⟨_, rfl⟩
  have hgg : w.heap.size + 1 = g' := by omega
  rw [hgg] at H0
  clear hN hb hs hgg
  go_wp2_with fail
  rw [← hg']
  clear hg'
  generalize w1.alloc (.cells #[.slice none 0 0, .int .i64 0, .int .i64 0, .int .i64 0] 49) = w2 at H0 ⊢
  obtain ⟨g, hg⟩ : ∃ g, g = w.heap.size := ⟨_, rfl⟩
  rw [← hg] at H0 ⊢
  have HB := Lib.hid (Nat.le_of_eq hg)
  have Hg := Lib.hid hg
  clear hg
  go_loopw [6] (fun i wr => ∃ k : Nat, k ≤ ls.length ∧ i = .int .i64 k ∧ Hid (∃ A c A' c' σ, invP σ k ∧ DuoC g w wr g A c g' A' c' σ)) (fun i _ => ls.length - (intOf i).toNat)
  case atStart => exact ⟨0, Nat.zero_le _, rfl, Lib.hid ⟨none, 0, none, 0, Nt.none, invP_none, H0.out⟩⟩
  case round =>
    clear H0
    obtain ⟨k, hk, rfl, HI⟩ := hrel
    obtain ⟨A, c, A', c', σ, hinv, hduo⟩ := HI.out
    by_cases hlt : k < ls.length
    · have hb300 := Hsz.out k hlt
      have Hinv := Lib.hid (hinv.step ls[k].1 ls[k].2 hb300)
      have Hok := Lib.hid (hinv.ok (by omega))
      have hrr := Hr.out.below (w' := wr) (by rw [← Hg.out]; exact hduo.b)
      obtain ⟨ad, rfl, d0, d1⟩ := pk_cells hrr hlt
      have HD := Lib.hid hduo
      have HCell := Lib.hid (show ∀ W, Below w.heap.size w W → W.cell? (ad.add (k * 2)) = some (.int .i64 ls[k].1) ∧ W.cell? ⟨(ad.add (k * 2)).block, (ad.add (k * 2)).off + 1, none⟩ = some (.string ls[k].2) from fun W hW => by
        obtain ⟨ad', h1, h2, h3⟩ := pk_cells (Hr.out.below hW) hlt
        injection h1 with h1
        subst h1
        exact ⟨h2, h3⟩)
      generalize ls[k] = p at d0 d1 hb300 Hinv HCell
      obtain ⟨tx, s⟩ := p
      simp only at d0 d1
      have hk80 : k < 80 := by omega
      clear hrr hinv hduo HI hb300
      go_wp2_with fail
      have q0 := fun w' (hk : KeepsBut [] wr.drew w') => hk.cell (p := ad.add (k * 2)) d0 (by simp)
      have q1 := fun w' (hk : KeepsBut [] wr.drew w') => hk.cell (p := ⟨(ad.add (k * 2)).block, (ad.add (k * 2)).off + 1, none⟩) d1 (by simp)
      clear d0 d1
      refine wp_region_mix3 (KeepsBut []) (KeepsBut.refl []) (KeepsBut.trans []) [12] [(0, 0), (0, 1), (0, 2), (0, 3), (0, 4), (0, 6), (0, 7), (0, 8), (0, 9), (1, 5), (1, 10), (2, 11), (2, 12)] (by kernel_rfl) (by kernel_rfl) (fun d _ _ _ _ h => by cases d <;> exact h) ?_
      repeat (first
        | (refine mix3_free (v := ?_) rfl rfl ?_ (mix3_norm (a' := ?_) ?_ ?_)
           rotate_left
           focus (intro w'; go_simp; first | done | (with_reducible rfl))
           rotate_left
           focus (simp only [Act.put, List.getElem_toArray, List.getElem_cons_zero, List.getElem_cons_succ, List.setIfInBounds_toArray, List.set_cons_zero, List.set_cons_succ]; rfl))
        | (refine mix3_pure (v := ?_) rfl rfl ?_ (mix3_norm (a' := ?_) ?_ ?_)
           rotate_left
           focus (intro w' hR; go_simp; first | done | (with_reducible rfl))
           rotate_left
           focus (simp only [Act.put, List.getElem_toArray, List.getElem_cons_zero, List.getElem_cons_succ, List.setIfInBounds_toArray, List.set_cons_zero, List.set_cons_succ]; rfl))
        | (refine mix3_freeOff rfl rfl (mix3_norm (a' := ?_) ?_ ?_)
           rotate_left
           focus (simp only [Act.put, List.getElem_toArray, List.getElem_cons_zero, List.getElem_cons_succ, List.setIfInBounds_toArray, List.set_cons_zero, List.set_cons_succ]; rfl))
        | (refine mix3_off rfl rfl (mix3_norm (a' := ?_) ?_ ?_)
           rotate_left
           focus (simp only [Act.put, List.getElem_toArray, List.getElem_cons_zero, List.getElem_cons_succ, List.setIfInBounds_toArray, List.set_cons_zero, List.set_cons_succ]; rfl)))
      clear q0 q1
      have hD1 := HD.out.keep HB.out ((Below.refl wr.heap.size wr).drew)
      have HD1 := Lib.hid hD1
      clear HD hD1
      generalize wr.drew = w5 at HD1 ⊢
      refine mix3_eff rfl ?_
      simp only [List.getElem_toArray, List.getElem_cons_zero, List.getElem_cons_succ]
      refine wpList_bytes_of rfl (.tmp 30) rfl s rfl ?_
      intro A5 c5 w6 hr5 _ hb5
      have HD5 := Lib.hid (HD1.out.keep HB.out hb5)
      go_wp2_with fail
      refine mixQ3_normal (KeepsBut.of_below hb5) rfl ?_
      have HS := Lib.hid (netSend_any w6 g A c σ Hok.out HD5.out.d.n tx A5 (bl s) c5 hr5)
      clear HD1 hr5 hb5
      refine mix3_eff rfl ?_
      simp only [List.getElem_toArray, List.getElem_cons_zero, List.getElem_cons_succ]
      go_wp2_with fail
      refine HS.out.mono ?_
      rintro e w7 ⟨rfl, hp⟩
      rw [mk_bl] at hp
      obtain ⟨A6, c6, hD6, n6, C6⟩ := HD5.out.d.onN hp
      go_wp2_with fail
      refine mixQ3_last (by simp) rfl ?_
      refine mix3_done ?_
      have hb7 : Below w.heap.size w w7 := by
        have h1 := HD5.out.b
        rw [Hg.out] at h1
        exact h1.trans (C6.below (fun i hi hf => by have := HD5.out.f i (.inl hf); have := Hg.out; omega) h1.size)
      obtain ⟨d0, d1⟩ := HCell.out w7 hb7
      have HD6 := Lib.hid hD6
      have HN6 := Lib.hid n6
      have HC6 := Lib.hid C6
      clear hp hD6 n6 C6 hb7 HS
      go_wp2_with fail
      have q0 := fun w' (hk : KeepsBut [] w7.drew w') => hk.cell (p := ad.add (k * 2)) d0 (by simp)
      have q1 := fun w' (hk : KeepsBut [] w7.drew w') => hk.cell (p := ⟨(ad.add (k * 2)).block, (ad.add (k * 2)).off + 1, none⟩) d1 (by simp)
      clear d0 d1
      refine wp_region_mix3 (KeepsBut []) (KeepsBut.refl []) (KeepsBut.trans []) [11] [(0, 0), (0, 1), (0, 2), (0, 3), (0, 4), (0, 6), (0, 7), (0, 8), (0, 9), (1, 5), (1, 10), (2, 11)] (by kernel_rfl) (by kernel_rfl) (fun d _ _ _ _ h => by cases d <;> exact h) ?_
      repeat (first
        | (refine mix3_free (v := ?_) rfl rfl ?_ (mix3_norm (a' := ?_) ?_ ?_)
           rotate_left
           focus (intro w'; go_simp; first | done | (with_reducible rfl))
           rotate_left
           focus (simp only [Act.put, List.getElem_toArray, List.getElem_cons_zero, List.getElem_cons_succ, List.setIfInBounds_toArray, List.set_cons_zero, List.set_cons_succ]; rfl))
        | (refine mix3_pure (v := ?_) rfl rfl ?_ (mix3_norm (a' := ?_) ?_ ?_)
           rotate_left
           focus (intro w' hR; go_simp; first | done | (with_reducible rfl))
           rotate_left
           focus (simp only [Act.put, List.getElem_toArray, List.getElem_cons_zero, List.getElem_cons_succ, List.setIfInBounds_toArray, List.set_cons_zero, List.set_cons_succ]; rfl))
        | (refine mix3_freeOff rfl rfl (mix3_norm (a' := ?_) ?_ ?_)
           rotate_left
           focus (simp only [Act.put, List.getElem_toArray, List.getElem_cons_zero, List.getElem_cons_succ, List.setIfInBounds_toArray, List.set_cons_zero, List.set_cons_succ]; rfl))
        | (refine mix3_off rfl rfl (mix3_norm (a' := ?_) ?_ ?_)
           rotate_left
           focus (simp only [Act.put, List.getElem_toArray, List.getElem_cons_zero, List.getElem_cons_succ, List.setIfInBounds_toArray, List.set_cons_zero, List.set_cons_succ]; rfl)))
      clear q0 q1
      have HB7 := Lib.hid (show Below w7.heap.size w7 w7.drew from (Below.refl w7.heap.size w7).drew)
      have HD7 := Lib.hid (HD6.out.chg (F := fun _ => False) (.of_below HB7.out) (fun _ _ f => f))
      have HR := Lib.hid (refSend_any w7.drew g' A' c' σ Hok.out HD7.out.r tx s)
      generalize w7.drew = w8 at HB7 HD7 HR ⊢
      refine mix3_eff rfl ?_
      simp only [List.getElem_toArray, List.getElem_cons_zero, List.getElem_cons_succ]
      go_wp2_with fail
      refine HR.out.mono ?_
      rintro e w9 ⟨rfl, hp⟩
      obtain ⟨A9, c9, hD9, n9, C9⟩ := HD7.out.onR hp
      obtain ⟨Ax, cx, Ay, cy, hfin⟩ := HD5.out.next HB.out (duo_both hD9 HN6.out HC6.out HB7.out n9 C9)
      have HF := Lib.hid hfin
      clear hp hD9 n9 C9 hfin HR HD7 HD6
      go_wp2_with fail
      refine mixQ3_last (by simp) rfl ?_
      refine mix3_done ?_
      go_wp2_with fail
      case roundEnd =>
        exact ⟨⟨k + 1, by omega, by push_cast; rfl, Lib.hid ⟨_, _, _, _, _, Hinv.out, HF.out⟩⟩, by simp only [intOf]; omega⟩
    · obtain rfl : k = ls.length := by omega
      have HF := Lib.hid (show invP σ 80 ∧ DuoC w.heap.size w wr g A c g' A' c' σ from ⟨by obtain ⟨h1, h2, h3, h4, h5, h6⟩ := hinv; exact ⟨h1, by omega, h3, h4, by omega, h6⟩, by rw [← Hg.out]; exact hduo⟩)
      clear hinv hduo HI
      go_wp2_with fail
      try simp only [Exit.inBlock, Exit.then]
      exact bodyPost_ret (results_tmp2 rfl _ _ _) rfl ⟨g, A, c, g', A', c', σ, rfl, HF.out.1, HF.out.2⟩
end Go.Proofs.Ytebcginnnjigjaa

end
