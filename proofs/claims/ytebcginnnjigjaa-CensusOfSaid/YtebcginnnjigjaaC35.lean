import Derived.Test.YtebcginnnjigjaaC34
import Derived.Test.YtebcginnnjigjaaC20
import Derived.Test.YtebcginnnjigjaaC25
import Derived.Test.YtebcginnnjigjaaC33
section
/- The document's net is cleaned: walked. -/
open Go.RowKit
namespace Go.Proofs.Ytebcginnnjigjaa

theorem NetRPost.step {w w1 w2 : World} {g : Nat} {A A1 : Option Addr} {σ : Nt} (h2 : ∀ k, blk A1 = some k → blk A = some k ∨ w.heap.size ≤ k) (h3 : Chg (Foot g A) w w1) (hp : NetRPost w1 g A1 σ w2) : NetRPost w g A σ w2 := by
  obtain ⟨A2, c2, hN, k2, C⟩ := hp
  refine ⟨A2, c2, hN, fun k hk => ?_, h3.trans C (fun i hi hf => ?_)⟩
  · rcases k2 k hk with h | h
    · exact h2 k h
    · exact .inr (Nat.le_trans h3.size h)
  · rcases hf with hf | hf
    · exact .inl hf
    · rcases h2 i hf with h | h
      · exact .inr h
      · omega
theorem NetRPost.keep {w w1 w2 : World} {g : Nat} {A : Option Addr} {σ : Nt} (h : NetRPost w g A σ w1) (hb : Below w1.heap.size w1 w2) : NetRPost w g A σ w2 := by
  obtain ⟨A1, c1, hN, k1, C⟩ := h
  exact ⟨A1, c1, hN.chg (F := fun _ => False) (.of_below hb) (fun _ _ f => f), k1, C.trans (Chg.of_below (F := fun _ => False) hb) (fun _ _ f => f.elim)⟩
/-- How many of the first are left. -/
def lef (z : Int) (σ : Nt) (m : Nat) : Nat := ((σ.ps.take m).filter (keepB z)).length
def clR (z : Int) (σ : Nt) (m : Nat) : Nt := ⟨σ.s, σ.c, σ.l + (gone z (σ.ps.take m) : Nat), (σ.ps.take m).filter (keepB z) ++ σ.ps.drop m⟩
section
variable {z : Int} {σ : Nt}
theorem clR_zero : clR z σ 0 = σ := by unfold clR gone; simp
theorem clR_full : clR z σ σ.ps.length = cleanN z σ := by unfold clR cleanN; simp
theorem lef_le (m : Nat) : lef z σ m ≤ m := by
  unfold lef
  have := List.length_filter_le (keepB z) (σ.ps.take m)
  rw [List.length_take] at this
  omega
theorem gone_lef (m : Nat) : gone z (σ.ps.take m) + lef z σ m ≤ m := by
  have h := List.length_eq_countP_add_countP (keepB z) (l := σ.ps.take m)
  rw [List.length_take] at h
  unfold gone lef
  rw [← List.countP_eq_length_filter]
  simp only [Bool.not_eq_true, ← Bool.not_eq_true', Bool.decide_eq_true] at h
  have e : (List.take m σ.ps).countP (fun a => decide ¬ (keepB z a = true)) = (List.take m σ.ps).countP (fun p => !keepB z p) := by
    congr 1; funext p; cases keepB z p <;> rfl
  simp only [Bool.not_eq_true] at e
  omega
theorem clR_length (m : Nat) : (clR z σ m).ps.length = lef z σ m + (σ.ps.length - m) := by
  unfold clR lef
  rw [List.length_append, List.length_drop]
theorem clR_at {m : Nat} (hm : m < σ.ps.length) (h : lef z σ m < (clR z σ m).ps.length) : (clR z σ m).ps[lef z σ m] = σ.ps[m] := by
  have e : (clR z σ m).ps[lef z σ m]? = some σ.ps[m] := by
    show ((σ.ps.take m).filter (keepB z) ++ σ.ps.drop m)[lef z σ m]? = _
    unfold lef
    rw [List.getElem?_append_right (Nat.le_refl _)]
    rw [Nat.sub_self, drop_cons hm]
    rfl
  rw [List.getElem?_eq_getElem h] at e
  exact Option.some.inj e
theorem clR_keep {m : Nat} (hm : m < σ.ps.length) (h : keepB z σ.ps[m] = true) : clR z σ (m + 1) = clR z σ m ∧ gone z (σ.ps.take (m + 1)) = gone z (σ.ps.take m) ∧ lef z σ (m + 1) = lef z σ m + 1 := by
  have hf : (σ.ps.take (m + 1)).filter (keepB z) = (σ.ps.take m).filter (keepB z) ++ [σ.ps[m]] := by rw [take_snoc hm, List.filter_append]; simp [h]
  have hg : gone z (σ.ps.take (m + 1)) = gone z (σ.ps.take m) := by rw [take_snoc hm]; unfold gone; rw [List.countP_append]; simp [h]
  refine ⟨?_, hg, ?_⟩
  · unfold clR
    rw [hg, hf, List.append_assoc, drop_cons hm]
    rfl
  · unfold lef
    rw [hf]
    simp
theorem clR_lose {m : Nat} (hm : m < σ.ps.length) (h : keepB z σ.ps[m] = false) : loseN (clR z σ m) (lef z σ m : Nat) = clR z σ (m + 1) ∧ gone z (σ.ps.take (m + 1)) = gone z (σ.ps.take m) + 1 ∧ lef z σ (m + 1) = lef z σ m := by
  have hf : (σ.ps.take (m + 1)).filter (keepB z) = (σ.ps.take m).filter (keepB z) := by rw [take_snoc hm, List.filter_append]; simp [h]
  have hg : gone z (σ.ps.take (m + 1)) = gone z (σ.ps.take m) + 1 := by rw [take_snoc hm]; unfold gone; rw [List.countP_append]; simp [h]
  refine ⟨?_, hg, by unfold lef; rw [hf]⟩
  rw [loseN_in (by rw [clR_length]; omega)]
  unfold clR
  simp only
  rw [hg, hf, drop_cons hm]
  have e1 : σ.l + ((gone z (σ.ps.take m) : Nat) : Int) + 1 = σ.l + ((gone z (σ.ps.take m) + 1 : Nat) : Int) := by push_cast; omega
  unfold lef
  rw [e1, List.eraseIdx_append_of_length_le (Nat.le_refl _), Nat.sub_self]
  rfl
theorem clR_ok {k : Nat} (h1 : 0 ≤ σ.s ∧ σ.s ≤ 1000) (h2 : 0 ≤ σ.c ∧ σ.c ≤ 1000) (h3 : 0 ≤ σ.l ∧ σ.l ≤ 1000) (h4 : σ.ps.length ≤ 60) : (clR z σ k).ok := by
  have hg := gone_le z (σ.ps.take k)
  rw [List.length_take] at hg
  have hf := List.length_filter_le (keepB z) (σ.ps.take k)
  rw [List.length_take] at hf
  unfold Nt.ok clR
  simp only
  refine ⟨⟨h1.1, by omega⟩, ⟨h2.1, by omega⟩, ⟨by omega, by omega⟩, ?_⟩
  rw [List.length_append, List.length_drop]
  omega
end
set_option maxHeartbeats 4000000 in
set_option maxRecDepth 100000 in
theorem refClean_any (w : World) (g : Nat) (A : Option Addr) (c : Nat) (σ : Nt) (h : NetR w g A c σ) (hp : PkOk σ.ps) (h1 : 0 ≤ σ.s ∧ σ.s ≤ 1000) (h2 : 0 ≤ σ.c ∧ σ.c ≤ 1000) (h3 : 0 ≤ σ.l ∧ σ.l ≤ 1000) (h4 : σ.ps.length ≤ 60) (z : Int) :
    Calls Try.prog 17 #[.pointer (some ⟨g, 0, none⟩), .int .u64 z] w fun e w' => e = .returned (.int .i64 (gone z σ.ps : Nat)) ∧ NetRPost w g A (cleanN z σ) w' := by
  have Hp := Lib.hid hp
  have HOk := Lib.hid (fun k => clR_ok (z := z) (σ := σ) (k := k) h1 h2 h3 h4)
  have HN : Hid (NetRPost w g A (clR z σ 0) w) := Lib.hid (by rw [clR_zero]; exact NetR.same (.refl _ _) h)
  have H4 := Lib.hid h4
  clear h hp h1 h2 h3 h4
  go_enter Try.func17, Try.ntmps17
  go_wp2_with fail
  go_loopw [5, 6] (fun v i wr => ∃ m : Nat, m ≤ σ.ps.length ∧ v = .int .i64 (gone z (σ.ps.take m) : Nat) ∧ i = .int .i64 (lef z σ m : Nat) ∧ Hid (NetRPost w g A (clR z σ m) wr)) (fun v i _ => (60 - (intOf v + intOf i)).toNat)
  case atStart => exact ⟨0, Nat.zero_le _, rfl, rfl, HN⟩
  case round =>
    clear HN
    obtain ⟨m, hm, rfl, rfl, HN⟩ := hrel
    have hk4 := H4.out
    have hml := lef_le (z := z) (σ := σ) m
    have hmg := gone_le z (σ.ps.take m)
    rw [List.length_take] at hmg
    have hGb : gone z (σ.ps.take m) ≤ 60 := by omega
    have hLb : lef z σ m ≤ 60 := by omega
    obtain ⟨A1, c1, hN, k1, C1⟩ := HN.out
    obtain ⟨⟨q0, _, _, _⟩, _⟩ := hN.cells
    have hlen := clR_length (z := z) (σ := σ) m
    by_cases hmm : m < σ.ps.length
    · have hGL : gone z (σ.ps.take m) + lef z σ m < 60 := by have := gone_lef (z := z) (σ := σ) m; omega
      have hlt : lef z σ m < (clR z σ m).ps.length := by omega
      have HM := Lib.hid hmm
      have HSz := Lib.hid (Hp.out σ.ps[m] (List.getElem_mem hmm)).2
      obtain ⟨b, rfl, hbl⟩ := hN.2.1.form (by omega)
      obtain ⟨_, p1, _, _⟩ := hN.2.1.cell (lef z σ m) hlt
      rw [clR_at hmm hlt] at p1
      have HK := Lib.hid (fun h => clR_keep (z := z) hmm h)
      have HLo := Lib.hid (fun h => clR_lose (z := z) hmm h)
      have hE := hasE_in (show inN (clR z σ m) (lef z σ m : Nat) by unfold inN; omega)
      have hNl := Lib.hid (fun W (hC : Below wr.heap.size wr W) => refLose_any W g (some ⟨b, 0, none⟩) c1 _ (HOk.out m) (hN.chg (F := fun _ => False) (.of_below hC) (fun _ _ f => f)) (lef z σ m : Nat))
      rw [hE] at hNl
      obtain ⟨M, hM⟩ : ∃ M, (clR z σ m).ps.length = M := ⟨_, rfl⟩
      rw [hM] at q0 hlt
      have hMb : M ≤ 60 := by have := (HOk.out m).2.2.2; omega
      have hsz : σ.ps[m].2.size ≤ 1000000 := by have := HSz.out; omega
      have hHG := Lib.hid (fun W => refFrGet_any W σ.ps[m].2 hsz)
      generalize σ.ps[m] = p at p1 HSz HK HLo hHG
      obtain ⟨x, s⟩ := p
      simp only at p1 hHG
      have HK1 := Lib.hid k1
      have HC1 := Lib.hid C1
      have HN1 := Lib.hid hN
      clear hN k1 C1 hml hmg hlen hE hbl hsz hM hm hmm
      generalize gone z (σ.ps.take m) = G at hGb hGL HK HLo ⊢
      generalize lef z σ m = L at hLb hGL HK HLo hNl p1 hlt ⊢
      go_wp2_with fail
      have HG := Lib.hid (hHG.out wr)
      have HKe : Hid (keepB z (x, s) = (decide (getE (bl s) = 0) && decide (((getX (bl s)).s : Int) = z))) := Lib.hid rfl
      generalize getX (bl s) = y at HG HKe
      obtain ⟨e1, he1⟩ : ∃ e1, getE (bl s) = e1 := ⟨_, rfl⟩
      rw [he1] at HG HKe
      unfold Fr.cells at HG
      clear he1 p1 q0 hHG
      refine HG.out.mono ?_
      rintro e W4 ⟨A4, c4, rfl, ho⟩
      have hb4 := ho.2.2
      obtain ⟨hb5, hg5, hs5⟩ := alloc1 W4 #[.int .i64 y.k, .int .u64 (y.s : Int), .int .u64 (y.e : Int), .int .u32 (y.q : Int), .int .u32 (y.v : Int), .int .i64 y.n, .int .i64 y.f, .int .i64 y.i, .int .i64 y.c, .string y.d, .slice A4 y.l.length c4] 58
      obtain ⟨_, d1, _⟩ := cells11 hg5
      have HB5 := Lib.hid (hb4.trans (hb5.mono (B' := wr.heap.size) hb4.size))
      clear ho hb4 hb5 hg5 hs5 HG
      by_cases he : e1 = 0
      · subst he
        rw [show ((0 : Nat) : Int) = 0 from rfl]
        by_cases hz : (y.s : Int) = z
        · have hzz : ((y.s : Int) != z) = false := by rw [bne_eq_false_iff_eq]; exact hz
          have HKt := Lib.hid (HK.out (by rw [HKe.out]; simp [hz]))
          clear hz
          go_wp2_with fail
          case roundEnd =>
            exact ⟨⟨m + 1, HM.out, by rw [HKt.out.2.1], by rw [HKt.out.2.2]; push_cast; rfl, Lib.hid (by rw [HKt.out.1]; exact NetRPost.keep ⟨_, _, HN1.out, HK1.out, HC1.out⟩ HB5.out)⟩, by simp only [intOf]; omega⟩
        · have hzz : ((y.s : Int) != z) = true := by rw [bne_iff_ne]; exact hz
          have HKf := Lib.hid (show keepB z (x, s) = false from by rw [HKe.out]; simp [hz])
          clear hz
          go_wp2_with fail
          clear hzz d1
          have HLs := Lib.hid (hNl.out _ HB5.out)
          go_wp2_with fail
          refine HLs.out.mono ?_
          rintro e w6 ⟨rfl, hP⟩
          rw [(HLo.out HKf.out).1] at hP
          have HP := Lib.hid (hP.step (fun k hk => HK1.out k hk) (HC1.out.trans (Chg.of_below (F := fun _ => False) HB5.out) (fun _ _ f => f.elim)))
          have HG2 := Lib.hid (HLo.out HKf.out).2
          clear hP HLs
          rw [show ((0 : Nat) : Int) = 0 from rfl]
          go_wp2_with fail
          case roundEnd =>
            exact ⟨⟨m + 1, HM.out, by rw [HG2.out.1]; push_cast; rfl, by rw [HG2.out.2], HP⟩, by simp only [intOf]; omega⟩
      · have hzz : ((e1 : Int) != 0) = true := by rw [bne_iff_ne]; omega
        have HKf := Lib.hid (show keepB z (x, s) = false from by rw [HKe.out]; simp [he])
        clear he
        go_wp2_with fail
        clear hzz d1
        have HLs := Lib.hid (hNl.out _ HB5.out)
        go_wp2_with fail
        refine HLs.out.mono ?_
        rintro e w6 ⟨rfl, hP⟩
        rw [(HLo.out HKf.out).1] at hP
        have HP := Lib.hid (hP.step (fun k hk => HK1.out k hk) (HC1.out.trans (Chg.of_below (F := fun _ => False) HB5.out) (fun _ _ f => f.elim)))
        have HG2 := Lib.hid (HLo.out HKf.out).2
        clear hP HLs
        rw [show ((0 : Nat) : Int) = 0 from rfl]
        go_wp2_with fail
        case roundEnd =>
          exact ⟨⟨m + 1, HM.out, by rw [HG2.out.1]; push_cast; rfl, by rw [HG2.out.2], HP⟩, by simp only [intOf]; omega⟩
    · have hme : m = σ.ps.length := by omega
      subst hme
      have hge : ((clR z σ σ.ps.length).ps.length : Int) ≤ (lef z σ σ.ps.length : Nat) := by omega
      have HF : Hid (NetRPost w g A (cleanN z σ) wr) := Lib.hid (by rw [← clR_full]; exact HN.out)
      rw [List.take_length] at *
      clear hN k1 C1 hml hmg hlen
      obtain ⟨M, hM⟩ : ∃ M, (clR z σ σ.ps.length).ps.length = M := ⟨_, rfl⟩
      rw [hM] at q0 hge
      obtain ⟨L, hL⟩ : ∃ L, lef z σ σ.ps.length = L := ⟨_, rfl⟩
      rw [hL] at hge hLb ⊢
      go_wp2_with fail
      go_ret
      exact ⟨rfl, HF.out⟩
end Go.Proofs.Ytebcginnnjigjaa

end
section
/- The census' law: packets that are few and short; laid on two nets. -/
open Go.RowKit
namespace Go.Proofs.Ytebcginnnjigjaa

theorem addr_next (a : Addr) (n : Nat) : (⟨(a.add n).block, (a.add n).off + 1, none⟩ : Addr) = a.add (n + 1) := by
  unfold Addr.add
  by_cases hn : n = 0
  · subst hn; rfl
  · simp [hn, Nat.add_assoc]
theorem pk_cells {w : World} {A : Option Addr} {ps : List (Int × ByteArray)} (h : Reads w 2 A ps.length (pks ps)) {k : Nat} (hk : k < ps.length) : ∃ ad : Addr, A = some ad ∧ w.cell? (ad.add (k * 2)) = some (.int .i64 ps[k].1) ∧ w.cell? ⟨(ad.add (k * 2)).block, (ad.add (k * 2)).off + 1, none⟩ = some (.string ps[k].2) := by
  obtain ⟨ad, rfl, hc⟩ := h.2 (by omega)
  refine ⟨ad, rfl, hc _ _ (pks_get0 ps k hk), ?_⟩
  rw [addr_next]
  exact hc _ _ (pks_get1 ps k hk)
def shortP (ls : List (Int × ByteArray)) : Bool := decide (ls.length ≤ 80) && ls.all fun a => decide (a.2.size ≤ 300)
theorem shortP_long {ls : List (Int × ByteArray)} (h : 80 < ls.length) : shortP ls = false := by unfold shortP; rw [decide_eq_false (by omega)]; rfl
theorem shortP_bad {ls : List (Int × ByteArray)} {k : Nat} (hk : k < ls.length) (h : 300 < ls[k].2.size) : shortP ls = false := by
  unfold shortP
  rw [Bool.and_eq_false_iff]; right
  rw [List.all_eq_false]
  exact ⟨ls[k], List.getElem_mem _, by simp; omega⟩
theorem shortP_ok {ls : List (Int × ByteArray)} (h : ls.length ≤ 80) (hk : ∀ k (hk : k < ls.length), ls[k].2.size ≤ 300) : shortP ls = true := by
  unfold shortP
  rw [decide_eq_true h, Bool.true_and, List.all_eq_true]
  intro a ha
  obtain ⟨k, hk', rfl⟩ := List.mem_iff_getElem.1 ha
  exact decide_eq_true (hk k hk')
theorem shortP_len {ls : List (Int × ByteArray)} (h : shortP ls = true) : ls.length ≤ 80 ∧ ∀ k (hk : k < ls.length), ls[k].2.size ≤ 300 := by
  unfold shortP at h
  rw [Bool.and_eq_true, List.all_eq_true] at h
  exact ⟨of_decide_eq_true h.1, fun k hk => of_decide_eq_true (h.2 _ (List.getElem_mem hk))⟩
set_option maxRecDepth 100000 in
theorem shortP_any (w : World) (A : Option Addr) (ls : List (Int × ByteArray)) (c : Nat) (hr : Reads w 2 A ls.length (pks ls)) :
    Calls Try.prog 5 #[.slice A ls.length c] w fun e w' => e = .returned (.bool (shortP ls)) ∧ w = w' := by
  have Hr := Lib.hid hr
  clear hr
  by_cases hl : 80 < ls.length
  · have H := Lib.hid (shortP_long hl)
    go_enter Try.func5, Try.ntmps5
    go_wp2_with fail
    go_ret
    exact ⟨by rw [H.out]; rfl, rfl⟩
  · go_enter Try.func5, Try.ntmps5
    go_wp2_with fail
    go_loopw [3] (fun i wr => ∃ k : Nat, k ≤ ls.length ∧ i = .int .i64 k ∧ Hid (∀ j (hj : j < ls.length), j < k → ls[j].2.size ≤ 300) ∧ Hid (w = wr)) (fun i _ => ls.length - (intOf i).toNat)
    case atStart => exact ⟨0, Nat.zero_le _, rfl, Lib.hid (fun j _ hj => by omega), Lib.hid rfl⟩
    case round =>
      obtain ⟨k, hk, rfl, Hp, Hw⟩ := hrel
      have hw := Hw.out
      subst hw
      by_cases hlt : k < ls.length
      · obtain ⟨ad, rfl, _, hc⟩ := pk_cells Hr.out hlt
        by_cases hb : 300 < ls[k].2.size
        · have H := Lib.hid (shortP_bad hlt hb)
          generalize ls[k].2 = b at hb hc
          go_wp2_with fail
          go_ret
          exact ⟨by rw [H.out]; rfl, rfl⟩
        · have H := Lib.hid (show ∀ j (hj : j < ls.length), j < k + 1 → ls[j].2.size ≤ 300 from fun j hj hjk => by
            by_cases h : j = k
            · subst h; omega
            · exact Hp.out j hj (by omega))
          generalize ls[k].2 = b at hb hc
          go_wp2_with fail
          case roundEnd =>
            exact ⟨⟨k + 1, by omega, by push_cast; rfl, H, Lib.hid (by trivial)⟩, by simp only [intOf]; omega⟩
      · obtain rfl : k = ls.length := by omega
        have H := Lib.hid (shortP_ok (by omega) (fun j hj => Hp.out j hj hj))
        go_wp2_with fail
        go_ret
        exact ⟨by rw [H.out]; rfl, rfl⟩

/-- Both nets stand above B; all below it is as it was. -/
structure DuoC (B : Nat) (w0 w : World) (g : Nat) (A : Option Addr) (c : Nat) (g' : Nat) (A' : Option Addr) (c' : Nat) (σ : Nt) : Prop where
  d : Duo w g A c g' A' c' σ σ
  b : Below B w0 w
  f : ∀ i, F2 g A g' A' i → B ≤ i
theorem DuoC.next {B : Nat} {w0 w w' : World} {g : Nat} {A : Option Addr} {c : Nat} {g' : Nat} {A' : Option Addr} {c' : Nat} {σ σ' : Nt} (h : DuoC B w0 w g A c g' A' c' σ) (hB : B ≤ w0.heap.size) (hp : DuoPost w g A g' A' σ' w') :
    ∃ A1 c1 A2 c2, DuoC B w0 w' g A1 c1 g' A2 c2 σ' := by
  obtain ⟨A1, c1, A2, c2, hd, n1, n2, C⟩ := hp
  have hs : B ≤ w.heap.size := Nat.le_trans hB h.b.size
  refine ⟨A1, c1, A2, c2, hd, h.b.trans (C.below (fun i hi hf => by have := h.f i hf; omega) hs), fun i hi => ?_⟩
  rcases hi with (hi | hi) | (hi | hi)
  · exact h.f i (.inl (.inl hi))
  · rcases n1 i hi with h1 | h1
    · exact h.f i (.inl (.inr h1))
    · omega
  · exact h.f i (.inr (.inl hi))
  · rcases n2 i hi with h1 | h1
    · exact h.f i (.inr (.inr h1))
    · omega
theorem DuoC.keep {B : Nat} {w0 w w' : World} {g : Nat} {A : Option Addr} {c : Nat} {g' : Nat} {A' : Option Addr} {c' : Nat} {σ : Nt} (h : DuoC B w0 w g A c g' A' c' σ) (hB : B ≤ w0.heap.size) (hb : Below w.heap.size w w') : DuoC B w0 w' g A c g' A' c' σ :=
  ⟨h.d.chg (F := fun _ => False) (.of_below hb) (fun _ _ f => f), h.b.trans (hb.mono (B' := B) (Nat.le_trans hB h.b.size)), h.f⟩
/-- Both nets at the start. -/
theorem duoC_start (w w1 : World) (hN : NetP w1 w.heap.size none 0 Nt.none) (hb : Below w.heap.size w w1) (hs : w1.heap.size = w.heap.size + 1) :
    DuoC w.heap.size w (w1.alloc (.cells #[.slice none 0 0, .int .i64 0, .int .i64 0, .int .i64 0] 49)) w.heap.size none 0 (w.heap.size + 1) none 0 Nt.none := by
  obtain ⟨hb2, hg2, hs2⟩ := alloc1 w1 #[.slice none 0 0, .int .i64 0, .int .i64 0, .int .i64 0] 49
  rw [hs] at hg2
  refine ⟨⟨hN.chg (F := fun _ => False) (.of_below hb2) (fun _ _ f => f), ⟨hg2, PRow.nil _, by simp [blk]⟩, fun i hi hj => ?_⟩, hb.trans (hb2.mono (B' := w.heap.size) hb.size), fun i hi => ?_⟩
  · rcases hi with rfl | hi
    · rcases hj with hj | hj
      · omega
      · simp [blk] at hj
    · simp [blk] at hi
  · rcases hi with (hi | hi) | (hi | hi)
    · omega
    · simp [blk] at hi
    · omega
    · simp [blk] at hi
/-- A net with so many sent, of packets that are short. -/
def invP (σ : Nt) (k : Nat) : Prop := 0 ≤ σ.s ∧ σ.s ≤ (k : Int) ∧ σ.c = 0 ∧ 0 ≤ σ.l ∧ σ.l ≤ (k : Int) ∧ σ.ps.length ≤ 60 ∧ PkOk σ.ps
theorem invP_none : invP Nt.none 0 := ⟨Int.le_refl _, Int.le_refl _, rfl, Int.le_refl _, Int.le_refl _, Nat.zero_le _, fun _ h => by cases h⟩
theorem invP.ok {σ : Nt} {k : Nat} (h : invP σ k) (hk : k ≤ 900) : σ.ok := by
  obtain ⟨h1, h2, h3, h4, h5, h6, _⟩ := h
  exact ⟨⟨by omega, by omega⟩, ⟨by omega, by omega⟩, ⟨by omega, by omega⟩, h6⟩
theorem invP.step {σ : Nt} {k : Nat} (h : invP σ k) (tx : Int) (b : ByteArray) (hb : b.size ≤ 300) : invP (sendN σ tx b) (k + 1) := by
  obtain ⟨h1, h2, h3, h4, h5, h6, h7⟩ := h
  unfold sendN
  split
  · exact ⟨h1, by push_cast; omega, h3, h4, by push_cast; omega, h6, h7⟩
  · rename_i hto
    split
    · refine ⟨?_, ?_, h3, ?_, ?_, h6, h7⟩ <;> simp only <;> push_cast <;> omega
    · refine ⟨?_, ?_, h3, h4, ?_, ?_, fun p hp => ?_⟩
      · simp only; omega
      · simp only; push_cast; omega
      · simp only; push_cast; omega
      · simp only [List.length_append, List.length_cons, List.length_nil]; omega
      · simp only [List.mem_append, List.mem_singleton] at hp
        rcases hp with hp | rfl
        · exact h7 p hp
        · exact ⟨by simp only; omega, by simp only; omega⟩
set_option maxHeartbeats 4000000 in
set_option maxRecDepth 100000 in
theorem laid_any (w : World) (A0 : Option Addr) (ls : List (Int × ByteArray)) (c0 : Nat) (hr : Reads w 2 A0 ls.length (pks ls)) (hs : shortP ls = true) :
    Calls Try.prog 7 #[.slice A0 ls.length c0] w fun e w' => ∃ g A c g' A' c' σ, e = .returned (.tuple #[.pointer (some ⟨g, 0, none⟩), .pointer (some ⟨g', 0, none⟩)]) ∧ invP σ 80 ∧ DuoC w.heap.size w w' g A c g' A' c' σ := by
  have Hr := Lib.hid hr
  obtain ⟨hlen, hsz⟩ := shortP_len hs
  have Hsz := Lib.hid hsz
  clear hr hs hsz
  go_enter Try.func7, Try.ntmps7
  go_wp2_with fail
  refine (netNew_any w).mono ?_
  rintro e w1 ⟨rfl, hN, hb, hs⟩
  have H0 := Lib.hid (duoC_start w w1 hN hb hs)
  obtain ⟨g', hg'⟩ : ∃ g', g' = w1.heap.size := ⟨_, rfl⟩
  have hgg : w.heap.size + 1 = g' := by omega
  rw [hgg] at H0
  clear hN hb hs hgg
  go_wp2_with fail
  rw [← hg']
  clear hg'
  generalize w1.alloc (.cells #[.slice none 0 0, .int .i64 0, .int .i64 0, .int .i64 0] 49) = w2 at H0 ⊢
  obtain ⟨g, hg⟩ : ∃ g, g = w.heap.size := ⟨_, rfl⟩
  rw [← hg] at H0 ⊢
  have HB := Lib.hid (Nat.le_of_eq hg)
  have Hg := Lib.hid hg
  clear hg
  go_loopw [6] (fun i wr => ∃ k : Nat, k ≤ ls.length ∧ i = .int .i64 k ∧ Hid (∃ A c A' c' σ, invP σ k ∧ DuoC g w wr g A c g' A' c' σ)) (fun i _ => ls.length - (intOf i).toNat)
  case atStart => exact ⟨0, Nat.zero_le _, rfl, Lib.hid ⟨none, 0, none, 0, Nt.none, invP_none, H0.out⟩⟩
  case round =>
    clear H0
    obtain ⟨k, hk, rfl, HI⟩ := hrel
    obtain ⟨A, c, A', c', σ, hinv, hduo⟩ := HI.out
    by_cases hlt : k < ls.length
    · have hb300 := Hsz.out k hlt
      have Hinv := Lib.hid (hinv.step ls[k].1 ls[k].2 hb300)
      have Hok := Lib.hid (hinv.ok (by omega))
      have hrr := Hr.out.below (w' := wr) (by rw [← Hg.out]; exact hduo.b)
      obtain ⟨ad, rfl, d0, d1⟩ := pk_cells hrr hlt
      have HD := Lib.hid hduo
      have HCell := Lib.hid (show ∀ W, Below w.heap.size w W → W.cell? (ad.add (k * 2)) = some (.int .i64 ls[k].1) ∧ W.cell? ⟨(ad.add (k * 2)).block, (ad.add (k * 2)).off + 1, none⟩ = some (.string ls[k].2) from fun W hW => by
        obtain ⟨ad', h1, h2, h3⟩ := pk_cells (Hr.out.below hW) hlt
        injection h1 with h1
        subst h1
        exact ⟨h2, h3⟩)
      generalize ls[k] = p at d0 d1 hb300 Hinv HCell
      obtain ⟨tx, s⟩ := p
      simp only at d0 d1
      have hk80 : k < 80 := by omega
      clear hrr hinv hduo HI hb300
      go_wp2_with fail
      have q0 := fun w' (hk : KeepsBut [] wr.drew w') => hk.cell (p := ad.add (k * 2)) d0 (by simp)
      have q1 := fun w' (hk : KeepsBut [] wr.drew w') => hk.cell (p := ⟨(ad.add (k * 2)).block, (ad.add (k * 2)).off + 1, none⟩) d1 (by simp)
      clear d0 d1
      refine wp_region_mix3 (KeepsBut []) (KeepsBut.refl []) (KeepsBut.trans []) [12] [(0, 0), (0, 1), (0, 2), (0, 3), (0, 4), (0, 6), (0, 7), (0, 8), (0, 9), (1, 5), (1, 10), (2, 11), (2, 12)] (by kernel_rfl) (by kernel_rfl) (fun d _ _ _ _ h => by cases d <;> exact h) ?_
      repeat ((first | (refine mix3_free (v := ?_) rfl rfl ?_ (mix3_norm (a' := ?_) ?_ ?_); rotate_left; focus (intro w'; go_simp; first | done | (with_reducible rfl))) | (refine mix3_pure (v := ?_) rfl rfl ?_ (mix3_norm (a' := ?_) ?_ ?_); rotate_left; focus (intro w' hR; go_simp; first | done | (with_reducible rfl))) | refine mix3_freeOff rfl rfl (mix3_norm (a' := ?_) ?_ ?_) | refine mix3_off rfl rfl (mix3_norm (a' := ?_) ?_ ?_)); rotate_left; focus (simp only [Act.put, List.getElem_toArray, List.getElem_cons_zero, List.getElem_cons_succ, List.setIfInBounds_toArray, List.set_cons_zero, List.set_cons_succ]; rfl))
      clear q0 q1
      have hD1 := HD.out.keep HB.out ((Below.refl wr.heap.size wr).drew)
      have HD1 := Lib.hid hD1
      clear HD hD1
      generalize wr.drew = w5 at HD1 ⊢
      refine mix3_eff rfl ?_
      simp only [List.getElem_toArray, List.getElem_cons_zero, List.getElem_cons_succ]
      refine wpList_bytes_of rfl (.tmp 30) rfl s rfl ?_
      intro A5 c5 w6 hr5 _ hb5
      have HD5 := Lib.hid (HD1.out.keep HB.out hb5)
      go_wp2_with fail
      refine mixQ3_normal (KeepsBut.of_below hb5) rfl ?_
      have HS := Lib.hid (netSend_any w6 g A c σ Hok.out HD5.out.d.n tx A5 (bl s) c5 hr5)
      clear HD1 hr5 hb5
      refine mix3_eff rfl ?_
      simp only [List.getElem_toArray, List.getElem_cons_zero, List.getElem_cons_succ]
      go_wp2_with fail
      refine HS.out.mono ?_
      rintro e w7 ⟨rfl, hp⟩
      rw [mk_bl] at hp
      obtain ⟨A6, c6, hD6, n6, C6⟩ := HD5.out.d.onN hp
      go_wp2_with fail
      refine mixQ3_last (by simp) rfl ?_
      refine mix3_done ?_
      have hb7 : Below w.heap.size w w7 := by
        have h1 := HD5.out.b
        rw [Hg.out] at h1
        exact h1.trans (C6.below (fun i hi hf => by have := HD5.out.f i (.inl hf); have := Hg.out; omega) h1.size)
      obtain ⟨d0, d1⟩ := HCell.out w7 hb7
      have HD6 := Lib.hid hD6
      have HN6 := Lib.hid n6
      have HC6 := Lib.hid C6
      clear hp hD6 n6 C6 hb7 HS
      go_wp2_with fail
      have q0 := fun w' (hk : KeepsBut [] w7.drew w') => hk.cell (p := ad.add (k * 2)) d0 (by simp)
      have q1 := fun w' (hk : KeepsBut [] w7.drew w') => hk.cell (p := ⟨(ad.add (k * 2)).block, (ad.add (k * 2)).off + 1, none⟩) d1 (by simp)
      clear d0 d1
      refine wp_region_mix3 (KeepsBut []) (KeepsBut.refl []) (KeepsBut.trans []) [11] [(0, 0), (0, 1), (0, 2), (0, 3), (0, 4), (0, 6), (0, 7), (0, 8), (0, 9), (1, 5), (1, 10), (2, 11)] (by kernel_rfl) (by kernel_rfl) (fun d _ _ _ _ h => by cases d <;> exact h) ?_
      repeat ((first | (refine mix3_free (v := ?_) rfl rfl ?_ (mix3_norm (a' := ?_) ?_ ?_); rotate_left; focus (intro w'; go_simp; first | done | (with_reducible rfl))) | (refine mix3_pure (v := ?_) rfl rfl ?_ (mix3_norm (a' := ?_) ?_ ?_); rotate_left; focus (intro w' hR; go_simp; first | done | (with_reducible rfl))) | refine mix3_freeOff rfl rfl (mix3_norm (a' := ?_) ?_ ?_) | refine mix3_off rfl rfl (mix3_norm (a' := ?_) ?_ ?_)); rotate_left; focus (simp only [Act.put, List.getElem_toArray, List.getElem_cons_zero, List.getElem_cons_succ, List.setIfInBounds_toArray, List.set_cons_zero, List.set_cons_succ]; rfl))
      clear q0 q1
      have HB7 := Lib.hid (show Below w7.heap.size w7 w7.drew from (Below.refl w7.heap.size w7).drew)
      have HD7 := Lib.hid (HD6.out.chg (F := fun _ => False) (.of_below HB7.out) (fun _ _ f => f))
      have HR := Lib.hid (refSend_any w7.drew g' A' c' σ Hok.out HD7.out.r tx s)
      generalize w7.drew = w8 at HB7 HD7 HR ⊢
      refine mix3_eff rfl ?_
      simp only [List.getElem_toArray, List.getElem_cons_zero, List.getElem_cons_succ]
      go_wp2_with fail
      refine HR.out.mono ?_
      rintro e w9 ⟨rfl, hp⟩
      obtain ⟨A9, c9, hD9, n9, C9⟩ := HD7.out.onR hp
      obtain ⟨Ax, cx, Ay, cy, hfin⟩ := HD5.out.next HB.out (duo_both hD9 HN6.out HC6.out HB7.out n9 C9)
      have HF := Lib.hid hfin
      clear hp hD9 n9 C9 hfin HR HD7 HD6
      go_wp2_with fail
      refine mixQ3_last (by simp) rfl ?_
      refine mix3_done ?_
      go_wp2_with fail
      case roundEnd =>
        exact ⟨⟨k + 1, by omega, by push_cast; rfl, Lib.hid ⟨_, _, _, _, _, Hinv.out, HF.out⟩⟩, by simp only [intOf]; omega⟩
    · obtain rfl : k = ls.length := by omega
      have HF := Lib.hid (show invP σ 80 ∧ DuoC w.heap.size w wr g A c g' A' c' σ from ⟨by obtain ⟨h1, h2, h3, h4, h5, h6⟩ := hinv; exact ⟨h1, by omega, h3, h4, by omega, h6⟩, by rw [← Hg.out]; exact hduo⟩)
      clear hinv hduo HI
      go_wp2_with fail
      try simp only [Exit.inBlock, Exit.then]
      exact bodyPost_ret (results_tmp2 rfl _ _ _) rfl ⟨g, A, c, g', A', c', σ, rfl, HF.out.1, HF.out.2⟩
end Go.Proofs.Ytebcginnnjigjaa

end
section
/- What is on a net of the document's, counted. -/
open Go.RowKit Go.Shelf
namespace Go.Proofs.Ytebcginnnjigjaa

/-- Between two packets: the counters' block, the result's. -/
structure OfR (w : World) (cs : Array Value) (W : World) : Prop where
  b : Below w.heap.size w W
  res : W.heap[w.heap.size]? = some (.cells (cvC ofZero) 32 (0, 0))
  row : W.heap[w.heap.size + 1]? = some (.cells cs 32 (0, 0))
section
variable {w : World} {cs : Array Value} {W : World}
theorem OfR.lt (h : OfR w cs W) : w.heap.size + 1 < W.heap.size := (Array.getElem?_eq_some_iff.1 h.row).1
theorem OfR.ab (h : OfR w cs W) {W' : World} (hab : Below W.heap.size W W') : OfR w cs W' :=
  ⟨h.b.trans (hab.mono (B' := w.heap.size) h.b.size), (hab.block _ (Array.getElem?_eq_some_iff.1 h.res).1).trans h.res, (hab.block _ h.lt).trans h.row⟩
theorem OfR.drew (h : OfR w cs W) : OfR w cs W.drew := h.ab (Below.refl _ _).drew
theorem OfR.bump {cv : List Int} (h : OfR w (cvC cv) W) (j : Nat) (d : Int) : OfR w (cvC (bump cv j d)) (W.setCell ⟨w.heap.size + 1, j, none⟩ (.int .i64 (wrap64 (cv.getD j 0 + d)))) :=
  ⟨h.b.setCell (p := ⟨w.heap.size + 1, j, none⟩) (Nat.le_succ _) _, (heap_setCell_other _ ⟨w.heap.size + 1, j, none⟩ _ _ (by simp)).trans h.res, cv_set h.row j _⟩
end
theorem ofR_start (w : World) : OfR w (cvC ofZero) ((w.alloc (.cells (cvC ofZero) 32)).alloc (.cells (cvC ofZero) 32)) := by
  obtain ⟨hb2, hg0, hg1, _⟩ := alloc2 w (cvC ofZero) 32 (cvC ofZero) 32
  exact ⟨hb2, hg0, hg1⟩
theorem take_next {ps : List (Int × ByteArray)} {k : Nat} (hk : k < ps.length) : ps.take (k + 1) = ps.take k ++ [ps[k]] := by rw [List.take_add_one, List.getElem?_eq_getElem hk]; rfl
set_option maxHeartbeats 8000000 in
set_option maxRecDepth 100000 in
theorem refOf_any (w : World) (g : Nat) (A : Option Addr) (c : Nat) (σ : Nt) (h : NetR w g A c σ) (hp : PkOk σ.ps) (h60 : σ.ps.length ≤ 60) :
    Calls Try.prog 9 #[.pointer (some ⟨g, 0, none⟩)] w fun e w' => e = .returned (.agg (cvC (ofL σ.ps))) ∧ Below w.heap.size w w' := by
  have Hp := Lib.hid hp
  have HN := Lib.hid h
  have HI := Lib.hid (ofR_start w)
  have ez : cvC ofZero = #[.int .i64 0, .int .i64 0, .int .i64 0, .int .i64 0, .int .i64 0, .int .i64 0, .int .i64 0, .int .i64 0, .int .i64 0, .int .i64 0, .int .i64 0, .int .i64 0] := rfl
  rw [ez] at HI
  clear h hp
  go_enter Try.func9, Try.ntmps9
  go_wp2_with fail
  generalize (w.alloc (.cells #[.int .i64 0, .int .i64 0, .int .i64 0, .int .i64 0, .int .i64 0, .int .i64 0, .int .i64 0, .int .i64 0, .int .i64 0, .int .i64 0, .int .i64 0, .int .i64 0] 32)).alloc (.cells #[.int .i64 0, .int .i64 0, .int .i64 0, .int .i64 0, .int .i64 0, .int .i64 0, .int .i64 0, .int .i64 0, .int .i64 0, .int .i64 0, .int .i64 0, .int .i64 0] 32) = w2 at HI ⊢
  rw [← ez] at HI
  clear ez
  go_loopw [4] (fun i wr => ∃ k : Nat, k ≤ σ.ps.length ∧ i = .int .i64 k ∧ Hid (OfR w (cvC (ofL (σ.ps.take k))) wr)) (fun i _ => σ.ps.length - (intOf i).toNat)
  case atStart => exact ⟨0, Nat.zero_le _, rfl, HI⟩
  case round =>
    clear HI
    obtain ⟨k, hk, rfl, HI⟩ := hrel
    have hN := HN.out.chg (F := fun _ => False) (.of_below HI.out.b) (fun _ _ f => f)
    obtain ⟨⟨q0, _, _, _⟩, _⟩ := hN.cells
    by_cases hlt : k < σ.ps.length
    · obtain ⟨b, rfl, hbl⟩ := hN.2.1.form (by omega)
      obtain ⟨p0, p1, _, _⟩ := hN.2.1.cell k hlt
      have hpx := Hp.out σ.ps[k] (List.getElem_mem hlt)
      have HE := Lib.hid (show ofL (σ.ps.take (k + 1)) = ofStep (ofL (σ.ps.take k)) σ.ps[k] by rw [take_next hlt, ofL_snoc])
      have HLn := Lib.hid (ofL_len (σ.ps.take k))
      generalize ofL (σ.ps.take k) = cv at HI HE HLn
      generalize σ.ps[k] = p at hpx p0 p1 HE
      obtain ⟨x, s⟩ := p
      simp only at p0 p1
      obtain ⟨n, rfl, hn⟩ : ∃ n : Nat, x = (n : Int) ∧ n < 2 := by
        rcases hpx.1 with h | h
        · exact ⟨0, by simpa using h, by omega⟩
        · exact ⟨1, by simpa using h, by omega⟩
      have HSz := Lib.hid hpx.2
      clear hpx hN hbl
      obtain ⟨hb1, hg1, hs1⟩ := alloc1 wr #[.int .i64 (n : Int), .string s] 51
      have HBk := Lib.hid HI.out.lt
      have HI := Lib.hid (HI.out.ab hb1)
      have HX := Lib.hid hg1
      clear hb1 hg1 hs1
      go_wp2_with fail
      clear q0 p0 p1
      generalize wr.alloc (.cells #[.int .i64 (n : Int), .string s] 51) = w1 at HI HX ⊢
      generalize wr.heap.size = bk at HX HBk ⊢
      obtain ⟨c0, f0⟩ := cv_cell HI.out.row (j := n) (by rw [HLn.out]; omega)
      obtain ⟨b0, b1, _, _⟩ := cells2 HX.out
      obtain ⟨v, hv⟩ : ∃ v, cv.getD n 0 = v := ⟨_, rfl⟩
      rw [hv] at c0
      have HI1 := HI.out.drew.bump n 1
      rw [hv] at HI1
      have HI1 := Lib.hid HI1
      have HX1 := Lib.hid (show (w1.drew.setCell ⟨w.heap.size + 1, n, none⟩ (.int .i64 (wrap64 (v + 1)))).heap[bk]? = _ from (heap_setCell_other w1.drew ⟨w.heap.size + 1, n, none⟩ bk (.int .i64 (wrap64 (v + 1))) (by show bk ≠ w.heap.size + 1; have := HBk.out; omega)).trans HX.out)
      have t0 := fun w' (hk : KeepsBut [] w1.drew w') => hk.cell (p := ⟨bk, 0, none⟩) b0 (by simp)
      have t1 := fun w' (hk : KeepsBut [] w1.drew w') => hk.cell (p := ⟨w.heap.size + 1, n, none⟩) c0 (by simp)
      have f1 : w1.drew.frozen? ⟨w.heap.size + 1, n, none⟩ = false := f0
      have c1 : w1.drew.cell? ⟨w.heap.size + 1, n, none⟩ = some (.int .i64 v) := c0
      have hni : (n : Int) < 2 := by omega
      clear hv b0 b1 c0 f0 HX HI
      refine wp_region_mix3 (KeepsBut []) (KeepsBut.refl []) (KeepsBut.trans []) [10] [(0, 0), (0, 2), (0, 4), (0, 8), (1, 1), (1, 3), (0, 5), (1, 6), (0, 7), (0, 9), (2, 10)] (by kernel_rfl) (by kernel_rfl) (fun d _ _ _ _ h => by cases d <;> exact h) ?_
      generalize w1.drew = w2 at t0 t1 f1 c1 HI1 HX1 ⊢
      repeat ((first | (refine mix3_free (v := ?_) rfl rfl ?_ (mix3_norm (a' := ?_) ?_ ?_); rotate_left; focus (intro w'; go_simp; first | done | (with_reducible rfl))) | (refine mix3_pure (v := ?_) rfl rfl ?_ (mix3_norm (a' := ?_) ?_ ?_); rotate_left; focus (intro w' hR; go_simp; first | done | (with_reducible rfl))) | refine mix3_freeOff rfl rfl (mix3_norm (a' := ?_) ?_ ?_) | refine mix3_off rfl rfl (mix3_norm (a' := ?_) ?_ ?_)); rotate_left; focus (simp only [Act.put, List.getElem_toArray, List.getElem_cons_zero, List.getElem_cons_succ, List.setIfInBounds_toArray, List.set_cons_zero, List.set_cons_succ]; rfl))
      refine mix3_eff rfl ?_
      simp only [List.getElem_toArray, List.getElem_cons_zero, List.getElem_cons_succ]
      go_wp2_with fail
      refine mixQ3_last (by simp) rfl ?_
      refine mix3_done ?_
      have HLn := Lib.hid ((bump_len cv n 1).trans HLn.out)
      generalize hc1 : bump cv n 1 = cv1 at HI1 HLn
      have HC1 := Lib.hid hc1
      generalize w2.setCell ⟨w.heap.size + 1, n, none⟩ (.int .i64 (wrap64 (v + 1))) = w3 at HI1 HX1 ⊢
      clear hc1 t0 t1 f1 c1 hni
      obtain ⟨c0, f0⟩ := cv_cell HI1.out.row (j := 11) (by rw [HLn.out]; omega)
      obtain ⟨b0, b1, _, _⟩ := cells2 HX1.out
      obtain ⟨v2, hv⟩ : ∃ v, cv1.getD 11 0 = v := ⟨_, rfl⟩
      rw [hv] at c0
      have HI2 := HI1.out.bump 11 (s.size : Nat)
      rw [hv] at HI2
      have HI2 := Lib.hid HI2
      have HX2 := (heap_setCell_other w3 ⟨w.heap.size + 1, 11, none⟩ bk (.int .i64 (wrap64 (v2 + (s.size : Nat)))) (by show bk ≠ w.heap.size + 1; have := HBk.out; omega)).trans HX1.out
      have HLn := Lib.hid ((bump_len cv1 11 (s.size : Nat)).trans HLn.out)
      generalize hc1 : bump cv1 11 (s.size : Nat) = cv2 at HI2 HLn
      have HC2 := Lib.hid hc1
      have HF := Lib.hid (show ofStep cv ((n : Int), s) = if getE (bl s) = 0 then bump cv2 (2 + (getX (bl s)).k.toNat) 1 else bump cv2 10 1 from by
        unfold ofStep; rw [Int.toNat_natCast, HC1.out, HC2.out])
      have HKi := Lib.hid (fun h : getE (bl s) = 0 => getX_kind h)
      have HG := Lib.hid (fun W => refFrGet_any W s (by have := HSz.out; omega))
      generalize hx : getX (bl s) = x at HG HF HKi
      obtain ⟨m, hm⟩ : ∃ m, getE (bl s) = m := ⟨_, rfl⟩
      rw [hm] at HF HKi
      simp only [hm] at HG
      unfold Fr.cells at HG
      have b1 : (w3.setCell ⟨w.heap.size + 1, 11, none⟩ (.int .i64 (wrap64 (v2 + (s.size : Nat))))).cell? ⟨bk, 1, none⟩ = some (.string s) := (cells2 HX2).2.1
      have b2 : w3.cell? ⟨bk, 1, none⟩ = some (.string s) := (cells2 HX1.out).2.1
      clear hx hm hc1 hv HI1 HX1 HX2 b0
      go_wp2_with fail
      clear b1 b2 c0 f0
      generalize w3.setCell ⟨w.heap.size + 1, 11, none⟩ (.int .i64 (wrap64 (v2 + (s.size : Nat)))) = w4 at HI2 ⊢
      refine (HG.out _).mono ?_
      rintro e W4 ⟨A4, c4, rfl, ho⟩
      have hb4 := ho.2.2
      obtain ⟨hb5, hg5, hs5⟩ := alloc1 W4 #[.int .i64 x.k, .int .u64 (x.s : Int), .int .u64 (x.e : Int), .int .u32 (x.q : Int), .int .u32 (x.v : Int), .int .i64 x.n, .int .i64 x.f, .int .i64 x.i, .int .i64 x.c, .string x.d, .slice A4 x.l.length c4] 58
      have HI := Lib.hid ((HI2.out.ab hb4).ab hb5)
      have HG5 := Lib.hid hg5
      clear ho hb4 hb5 hs5 hg5 HG HI2
      by_cases hm0 : m = 0
      · subst hm0
        obtain ⟨kn, hk2, hkl⟩ := HKi.out rfl
        have hF := HF.out
        rw [if_pos rfl, hk2, Int.toNat_natCast] at hF
        have HF9 := Lib.hid hF
        clear hF HF
        have Hk2 := Lib.hid hk2
        clear hk2
        rw [show ((0 : Nat) : Int) = 0 from rfl]
        go_wp2_with fail
        generalize W4.alloc (.cells #[.int .i64 x.k, .int .u64 (x.s : Int), .int .u64 (x.e : Int), .int .u32 (x.q : Int), .int .u32 (x.v : Int), .int .i64 x.n, .int .i64 x.f, .int .i64 x.i, .int .i64 x.c, .string x.d, .slice A4 x.l.length c4] 58) = W5 at HI HG5 ⊢
        generalize W4.heap.size = gf at HG5 ⊢
        obtain ⟨d0, _⟩ := cells11 HG5.out
        rw [Hk2.out] at d0
        obtain ⟨c0, f0⟩ := cv_cell HI.out.row (j := 2 + kn) (by rw [HLn.out]; omega)
        obtain ⟨v3, hv⟩ : ∃ v, cv2.getD (2 + kn) 0 = v := ⟨_, rfl⟩
        rw [hv] at c0
        have HI3 := HI.out.drew.bump (2 + kn) 1
        rw [hv] at HI3
        have HI3 := Lib.hid HI3
        have t0 := fun w' (hk : KeepsBut [] W5.drew w') => hk.cell (p := ⟨gf, 0, none⟩) d0 (by simp)
        have t1 := fun w' (hk : KeepsBut [] W5.drew w') => hk.cell (p := ⟨w.heap.size + 1, 2 + kn, none⟩) c0 (by simp)
        have f1 : W5.drew.frozen? ⟨w.heap.size + 1, 2 + kn, none⟩ = false := f0
        have c1 : W5.drew.cell? ⟨w.heap.size + 1, 2 + kn, none⟩ = some (.int .i64 v3) := c0
        have hni : (kn : Int) < 8 := by omega
        clear hv d0 c0 f0 HG5 HI
        refine wp_region_mix3 (KeepsBut []) (KeepsBut.refl []) (KeepsBut.trans []) [10] [(0, 0), (0, 2), (0, 4), (0, 8), (1, 1), (1, 3), (0, 5), (1, 6), (0, 7), (0, 9), (2, 10)] (by kernel_rfl) (by kernel_rfl) (fun d _ _ _ _ h => by cases d <;> exact h) ?_
        generalize W5.drew = W6 at t0 t1 f1 c1 HI3 ⊢
        repeat ((first | (refine mix3_free (v := ?_) rfl rfl ?_ (mix3_norm (a' := ?_) ?_ ?_); rotate_left; focus (intro w'; go_simp; first | done | (with_reducible rfl))) | (refine mix3_pure (v := ?_) rfl rfl ?_ (mix3_norm (a' := ?_) ?_ ?_); rotate_left; focus (intro w' hR; go_simp; first | done | (with_reducible rfl))) | refine mix3_freeOff rfl rfl (mix3_norm (a' := ?_) ?_ ?_) | refine mix3_off rfl rfl (mix3_norm (a' := ?_) ?_ ?_)); rotate_left; focus (simp only [Act.put, List.getElem_toArray, List.getElem_cons_zero, List.getElem_cons_succ, List.setIfInBounds_toArray, List.set_cons_zero, List.set_cons_succ]; rfl))
        refine mix3_eff rfl ?_
        simp only [List.getElem_toArray, List.getElem_cons_zero, List.getElem_cons_succ]
        go_wp2_with fail
        refine mixQ3_last (by simp) rfl ?_
        refine mix3_done ?_
        go_wp2_with fail
        case roundEnd =>
          exact ⟨⟨k + 1, by omega, by push_cast; rfl, Lib.hid (by rw [HE.out, HF9.out]; exact HI3.out)⟩, by simp only [intOf]; omega⟩
      · have hF := HF.out
        rw [if_neg hm0] at hF
        have HF9 := Lib.hid hF
        clear hF HF
        have hb0 : ((m : Int) != 0) = true := by rw [bne_iff_ne]; omega
        obtain ⟨c0, f0⟩ := cv_cell HI.out.row (j := 10) (by rw [HLn.out]; omega)
        obtain ⟨v3, hv⟩ : ∃ v, cv2.getD 10 0 = v := ⟨_, rfl⟩
        rw [hv] at c0
        have HI3 := HI.out.bump 10 1
        rw [hv] at HI3
        have HI3 := Lib.hid HI3
        clear hv hm0 HG5 HI
        go_wp2_with fail
        case roundEnd =>
          exact ⟨⟨k + 1, by omega, by push_cast; rfl, Lib.hid (by rw [HE.out, HF9.out]; exact HI3.out)⟩, by simp only [intOf]; omega⟩
    · have hke : k = σ.ps.length := by omega
      subst hke
      rw [List.take_length] at HI
      have hlen := ofL_len σ.ps
      have hrow := HI.out.row
      have hres := HI.out.res
      obtain ⟨v0, v1, v2, v3, v4, v5, v6, v7, v8, v9, v10, v11, hcv⟩ := list12 hlen
      rw [hcv] at hrow
      have HE := Lib.hid hcv
      have hrow : wr.heap[w.heap.size + 1]? = some (.cells #[.int .i64 v0, .int .i64 v1, .int .i64 v2, .int .i64 v3, .int .i64 v4, .int .i64 v5, .int .i64 v6, .int .i64 v7, .int .i64 v8, .int .i64 v9, .int .i64 v10, .int .i64 v11] 32 (0, 0)) := hrow
      have hres : wr.heap[w.heap.size]? = some (.cells #[.int .i64 0, .int .i64 0, .int .i64 0, .int .i64 0, .int .i64 0, .int .i64 0, .int .i64 0, .int .i64 0, .int .i64 0, .int .i64 0, .int .i64 0, .int .i64 0] 32 (0, 0)) := hres
      obtain ⟨⟨c0, c1, c2, c3, c4, c5, c6, c7, c8, c9, c10, c11⟩, _⟩ := cells12 hrow
      obtain ⟨⟨e0, e1, e2, e3, e4, e5, e6, e7, e8, e9, e10, e11⟩, f0, f1, f2, f3, f4, f5, f6, f7, f8, f9, f10, f11⟩ := cells12 hres
      have HS := Lib.hid (set12 hres (.int .i64 v0) (.int .i64 v1) (.int .i64 v2) (.int .i64 v3) (.int .i64 v4) (.int .i64 v5) (.int .i64 v6) (.int .i64 v7) (.int .i64 v8) (.int .i64 v9) (.int .i64 v10) (.int .i64 v11))
      have HB := Lib.hid HI.out.b
      clear HI hres hrow hlen hcv hN
      go_wp2_with fail
      clear c0 c1 c2 c3 c4 c5 c6 c7 c8 c9 c10 c11 e0 e1 e2 e3 e4 e5 e6 e7 e8 e9 e10 e11 f0 f1 f2 f3 f4 f5 f6 f7 f8 f9 f10 f11 q0
      try simp only [Exit.inBlock, Exit.then]
      exact bodyPost_ret (results_cell_row rfl _ _ w.heap.size _ _ _ _ rfl HS.out.1 Try.underlying32 rfl (by kernel_rfl)) rfl ⟨by rw [HE.out]; rfl, HB.out.trans (HS.out.2.below (fun i hi e => by omega) HB.out.size)⟩
end Go.Proofs.Ytebcginnnjigjaa

end
section
/- The frames that the packets of a net of the document's are. -/
open Go.RowKit Go.Shelf
namespace Go.Proofs.Ytebcginnnjigjaa

/-- Between two packets: the frames' row. -/
structure FrR (w : World) (fs : List Fr) (A : Option Addr) (c : Nat) (l : List FT) (W : World) : Prop where
  b : Below w.heap.size w W
  row : FRow W A c l
  fr : l.map FT.x = fs
  ge : ∀ k, blk A = some k → w.heap.size ≤ k
theorem FrR.ab {w : World} {fs : List Fr} {A : Option Addr} {c : Nat} {l : List FT} {W W' : World} (h : FrR w fs A c l W) (hab : Below W.heap.size W W') : FrR w fs A c l W' :=
  ⟨h.b.trans (hab.mono (B' := w.heap.size) h.b.size), h.row.below hab, h.fr, h.ge⟩
set_option maxHeartbeats 8000000 in
set_option maxRecDepth 100000 in
theorem refFrames_any (w : World) (g : Nat) (A0 : Option Addr) (c0 : Nat) (σ : Nt) (h : NetR w g A0 c0 σ) (hp : PkOk σ.ps) (h60 : σ.ps.length ≤ 60) :
    Calls Try.prog 12 #[.pointer (some ⟨g, 0, none⟩)] w fun e w' => ∃ A c l, e = .returned (.slice A (List.length l) c) ∧ l.map FT.x = framesL σ.ps ∧ FRow w' A c l ∧ (∀ k, blk A = some k → w.heap.size ≤ k) ∧ Below w.heap.size w w' := by
  have Hp := Lib.hid hp
  have HN := Lib.hid h
  have H60 := Lib.hid h60
  clear h hp h60
  go_enter Try.func12, Try.ntmps12
  go_wp2_with fail
  go_loopw [3, 4] (fun v i wr => ∃ k : Nat, k ≤ σ.ps.length ∧ i = .int .i64 k ∧ ∃ A c l, v = .slice A (List.length l) c ∧ Hid (FrR w (framesL (σ.ps.take k)) A c l wr)) (fun _ i _ => σ.ps.length - (intOf i).toNat)
  case atStart => exact ⟨0, Nat.zero_le _, rfl, none, 0, [], rfl, Lib.hid ⟨Below.refl _ _, FRow.nil _, rfl, by simp [blk]⟩⟩
  case round =>
    obtain ⟨k, hk, rfl, A, c, l, rfl, HI⟩ := hrel
    have hk60 : k ≤ 60 := Nat.le_trans hk H60.out
    have hN := HN.out.chg (F := fun _ => False) (.of_below HI.out.b) (fun _ _ f => f)
    obtain ⟨⟨q0, _, _, _⟩, _⟩ := hN.cells
    by_cases hlt : k < σ.ps.length
    · obtain ⟨b, rfl, hbl⟩ := hN.2.1.form (by omega)
      obtain ⟨p0, p1, _, _⟩ := hN.2.1.cell k hlt
      have hpx := Hp.out σ.ps[k] (List.getElem_mem hlt)
      have HF := Lib.hid (show framesL (σ.ps.take (k + 1)) = if getE (bl σ.ps[k].2) = 0 then framesL (σ.ps.take k) ++ [getX (bl σ.ps[k].2)] else framesL (σ.ps.take k) by rw [take_next hlt, framesL_snoc])
      have HLl := Lib.hid (show l.length + 1 ≤ 100000 from by
        have h1 : l.length = (framesL (σ.ps.take k)).length := by rw [← HI.out.fr, List.length_map]
        have h2 := framesL_len (σ.ps.take k)
        rw [List.length_take] at h2
        omega)
      generalize framesL (σ.ps.take k) = fs at HI HF
      generalize σ.ps[k] = p at hpx p0 p1 HF
      obtain ⟨x, s⟩ := p
      simp only at HF p1
      have HSz := Lib.hid hpx.2
      have HG := Lib.hid (fun W => refFrGet_any W s (by have : s.size ≤ 100000 := HSz.out; omega))
      generalize hx : getX (bl s) = y at HG HF
      obtain ⟨m, hm⟩ : ∃ m, getE (bl s) = m := ⟨_, rfl⟩
      rw [hm] at HF
      simp only [hm] at HG
      unfold Fr.cells at HG
      clear hx hm hpx hN hbl p0
      go_wp2_with fail
      clear q0 p1
      refine (HG.out _).mono ?_
      rintro e W4 ⟨A4, c4, rfl, ho⟩
      have hb4 := ho.2.2
      obtain ⟨hb5, hg5, hs5⟩ := alloc1 W4 #[.int .i64 y.k, .int .u64 (y.s : Int), .int .u64 (y.e : Int), .int .u32 (y.q : Int), .int .u32 (y.v : Int), .int .i64 y.n, .int .i64 y.f, .int .i64 y.i, .int .i64 y.c, .string y.d, .slice A4 y.l.length c4] 58
      have HY := Lib.hid (ho.1.below hb5)
      have HI := Lib.hid ((HI.out.ab hb4).ab hb5)
      have HG5 := Lib.hid hg5
      clear ho hb4 hb5 hs5 hg5 HG
      by_cases hm0 : m = 0
      · subst hm0
        have HF9 := Lib.hid (HF.out.trans (if_pos rfl))
        clear HF
        rw [show ((0 : Nat) : Int) = 0 from rfl]
        obtain ⟨d0, d1, d2, d3, d4, d5, d6, d7, d8, d9, d10⟩ := cells11 HG5.out
        obtain ⟨hb6, hg6, _⟩ := alloc1 (W4.alloc (.cells #[.int .i64 y.k, .int .u64 (y.s : Int), .int .u64 (y.e : Int), .int .u32 (y.q : Int), .int .u32 (y.v : Int), .int .i64 y.n, .int .i64 y.f, .int .i64 y.i, .int .i64 y.c, .string y.d, .slice A4 y.l.length c4] 58)) #[.int .i64 y.k, .int .u64 (y.s : Int), .int .u64 (y.e : Int), .int .u32 (y.q : Int), .int .u32 (y.v : Int), .int .i64 y.n, .int .i64 y.f, .int .i64 y.i, .int .i64 y.c, .string y.d, .slice A4 y.l.length c4] 58
        rw [size_alloc] at hg6
        have HX6 := Lib.hid (And.intro (HI.out.row.below hb6) (And.intro (Reads.of_block (n := 1) (sz := 11) hg6 rfl) (HY.out.below hb6)))
        have HI6 := Lib.hid (HI.out.ab hb6)
        clear hb6 hg6
        go_wp2_with (at_builtin; refine wpList_append_fr rfl (.tmp 30) (.tmp 32) rfl A c l rfl HX6.out.1 (some ⟨W4.heap.size + 1, 0, none⟩) 1 ⟨y, A4, c4⟩ rfl HX6.out.2.1 HX6.out.2.2 HLl.out ?_)
        intro A7 c7 w7 hrow hchg hblk
        have HI7 := Lib.hid (show FrR w (fs ++ [y]) A7 c7 (l ++ [⟨y, A4, c4⟩]) w7 from ⟨HI6.out.b.trans (hchg.below (fun i hi e => by have := HI6.out.ge i e; omega) HI6.out.b.size), hrow, by rw [List.map_append, HI6.out.fr]; rfl, fun k hk => by
          rcases hblk k hk with h | h
          · exact HI6.out.ge k h
          · have h2 := HI6.out.b.size; simp only [size_alloc] at h2 h; omega⟩)
        have hlen : l.length + 1 = (l ++ [(⟨y, A4, c4⟩ : FT)]).length := by simp
        clear hrow hchg hblk d0 d1 d2 d3 d4 d5 d6 d7 d8 d9 d10
        rw [hlen]
        generalize l ++ [(⟨y, A4, c4⟩ : FT)] = l7 at HI7 ⊢
        clear hlen
        go_wp2_with fail
        case roundEnd =>
          exact ⟨⟨k + 1, by omega, by push_cast; rfl, A7, c7, l7, rfl, Lib.hid (by rw [HF9.out]; exact HI7.out)⟩, by simp only [intOf]; omega⟩
      · have HF9 := Lib.hid (HF.out.trans (if_neg hm0))
        have hb0 : ((m : Int) == 0) = false := by rw [beq_eq_false_iff_ne]; omega
        clear hm0 HF
        go_wp2_with fail
        case roundEnd =>
          exact ⟨⟨k + 1, by omega, by push_cast; rfl, A, c, l, rfl, Lib.hid (by rw [HF9.out]; exact HI.out)⟩, by simp only [intOf]; omega⟩
    · have hke : k = σ.ps.length := by omega
      subst hke
      rw [List.take_length] at HI
      clear hN
      go_wp2_with fail
      go_ret
      exact ⟨A, c, l, rfl, HI.out.fr, HI.out.row, HI.out.ge, HI.out.b⟩
end Go.Proofs.Ytebcginnnjigjaa

end
