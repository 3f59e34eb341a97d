/- A net is cleaned: walked. -/
import Derived.Test.YtebcginnnjigjaaC33
import Derived.Test.YtebcginnnjigjaaC16
open Go.RowKit
namespace Go.Proofs.Ytebcginnnjigjaa

theorem NetPost.step {w w1 w2 : World} {g : Nat} {A A1 : Option Addr} {σ : Nt} (h2 : ∀ k, blk A1 = some k → blk A = some k ∨ w.heap.size ≤ k) (h3 : Chg (Foot g A) w w1) (hp : NetPost w1 g A1 σ w2) : NetPost w g A σ w2 := by
  obtain ⟨A2, c2, hN, k2, C⟩ := hp
  refine ⟨A2, c2, hN, fun k hk => ?_, h3.trans C (fun i hi hf => ?_)⟩
  · rcases k2 k hk with h | h
    · exact h2 k h
    · exact .inr (Nat.le_trans h3.size h)
  · rcases hf with hf | hf
    · exact .inl hf
    · rcases h2 i hf with h | h
      · exact .inr h
      · omega
theorem NetPost.keep {w w1 w2 : World} {g : Nat} {A : Option Addr} {σ : Nt} (h : NetPost w g A σ w1) (hb : Below w1.heap.size w1 w2) : NetPost w g A σ w2 := by
  obtain ⟨A1, c1, hN, k1, C⟩ := h
  exact ⟨A1, c1, hN.chg (F := fun _ => False) (.of_below hb) (fun _ _ f => f), k1, C.trans (Chg.of_below (F := fun _ => False) hb) (fun _ _ f => f.elim)⟩
/-- Is it a frame of that session? -/
def keepB (z : Int) (p : Int × ByteArray) : Bool := decide (getE (bl p.2) = 0) && decide (((getX (bl p.2)).s : Int) = z)
def gone (z : Int) (ps : List (Int × ByteArray)) : Nat := ps.countP fun p => !keepB z p
def clN (z : Int) (σ : Nt) (k : Nat) : Nt := ⟨σ.s, σ.c, σ.l + (gone z (σ.ps.drop k) : Nat), σ.ps.take k ++ (σ.ps.drop k).filter (keepB z)⟩
def cleanN (z : Int) (σ : Nt) : Nt := ⟨σ.s, σ.c, σ.l + (gone z σ.ps : Nat), σ.ps.filter (keepB z)⟩
theorem gone_le (z : Int) (ps : List (Int × ByteArray)) : gone z ps ≤ ps.length := List.countP_le_length
section
variable {z : Int} {σ : Nt}
theorem clN_full : clN z σ σ.ps.length = σ := by
  unfold clN gone
  simp
theorem clN_zero : clN z σ 0 = cleanN z σ := by unfold clN cleanN; simp
theorem drop_cons {m : Nat} (hm : m < σ.ps.length) : σ.ps.drop m = σ.ps[m] :: σ.ps.drop (m + 1) := List.drop_eq_getElem_cons hm
theorem take_snoc {m : Nat} (hm : m < σ.ps.length) : σ.ps.take (m + 1) = σ.ps.take m ++ [σ.ps[m]] := by rw [List.take_add_one, List.getElem?_eq_getElem hm]; rfl
theorem clN_keep {m : Nat} (hm : m < σ.ps.length) (h : keepB z σ.ps[m] = true) : clN z σ m = clN z σ (m + 1) ∧ gone z (σ.ps.drop m) = gone z (σ.ps.drop (m + 1)) := by
  have hg : gone z (σ.ps.drop m) = gone z (σ.ps.drop (m + 1)) := by rw [drop_cons hm]; unfold gone; rw [List.countP_cons]; simp [h]
  refine ⟨?_, hg⟩
  unfold clN
  rw [hg, drop_cons hm, take_snoc hm, List.filter_cons, if_pos h, List.append_assoc]
  rfl
theorem clN_len {m : Nat} (hm : m < σ.ps.length) : m < (clN z σ (m + 1)).ps.length := by
  unfold clN
  rw [List.length_append, List.length_take]
  omega
theorem clN_at {m : Nat} (hm : m < σ.ps.length) : pAt (clN z σ (m + 1)) (m : Int) = σ.ps[m] := by
  rw [pAt_in (clN_len hm)]
  have h : (clN z σ (m + 1)).ps[m]? = some σ.ps[m] := by
    show (σ.ps.take (m + 1) ++ (σ.ps.drop (m + 1)).filter (keepB z))[m]? = _
    rw [List.getElem?_append_left (by rw [List.length_take]; omega), List.getElem?_take_of_lt (by omega), List.getElem?_eq_getElem hm]
  rw [List.getElem?_eq_getElem (clN_len hm)] at h
  exact Option.some.inj h
theorem clN_lose {m : Nat} (hm : m < σ.ps.length) (h : keepB z σ.ps[m] = false) : loseN (clN z σ (m + 1)) (m : Int) = clN z σ m ∧ gone z (σ.ps.drop m) = gone z (σ.ps.drop (m + 1)) + 1 := by
  have hg : gone z (σ.ps.drop m) = gone z (σ.ps.drop (m + 1)) + 1 := by rw [drop_cons hm]; unfold gone; rw [List.countP_cons]; simp [h]
  refine ⟨?_, hg⟩
  rw [loseN_in (clN_len hm)]
  unfold clN
  simp only
  rw [hg]
  have e1 : σ.l + ((gone z (σ.ps.drop (m + 1)) : Nat) : Int) + 1 = σ.l + ((gone z (σ.ps.drop (m + 1)) + 1 : Nat) : Int) := by push_cast; omega
  rw [e1]
  have hl : (σ.ps.take m).length = m := by rw [List.length_take]; omega
  have e2 : (σ.ps.take (m + 1) ++ (σ.ps.drop (m + 1)).filter (keepB z)).eraseIdx m = σ.ps.take m ++ (σ.ps.drop m).filter (keepB z) := by
    rw [take_snoc hm, List.append_assoc, List.eraseIdx_append_of_length_le (by omega), hl, Nat.sub_self, drop_cons hm, List.filter_cons, if_neg (by rw [h]; simp)]
    rfl
  rw [e2]
theorem clN_ok {k : Nat} (h1 : 0 ≤ σ.s ∧ σ.s ≤ 1000) (h2 : 0 ≤ σ.c ∧ σ.c ≤ 1000) (h3 : 0 ≤ σ.l ∧ σ.l ≤ 1000) (h4 : σ.ps.length ≤ 60) : (clN z σ k).ok := by
  have hg := gone_le z (σ.ps.drop k)
  rw [List.length_drop] at hg
  have hf := List.length_filter_le (keepB z) (σ.ps.drop k)
  rw [List.length_drop] at hf
  unfold Nt.ok clN
  simp only
  refine ⟨⟨h1.1, by omega⟩, ⟨h2.1, by omega⟩, ⟨by omega, by omega⟩, ?_⟩
  rw [List.length_append, List.length_take]
  omega
end
set_option maxHeartbeats 4000000 in
set_option maxRecDepth 100000 in
theorem clean_any (w : World) (g : Nat) (A : Option Addr) (c : Nat) (σ : Nt) (h : NetP w g A c σ) (hp : PkOk σ.ps) (h1 : 0 ≤ σ.s ∧ σ.s ≤ 1000) (h2 : 0 ≤ σ.c ∧ σ.c ≤ 1000) (h3 : 0 ≤ σ.l ∧ σ.l ≤ 1000) (h4 : σ.ps.length ≤ 60) (z : Int) :
    Calls Try.prog 16 #[.pointer (some ⟨g, 0, none⟩), .int .u64 z] w fun e w' => e = .returned (.int .i64 (gone z σ.ps : Nat)) ∧ NetPost w g A (cleanN z σ) w' := by
  have HL := Lib.hid (netLen_any w g A c σ h)
  have Hp := Lib.hid hp
  have HOk := Lib.hid (fun k => clN_ok (z := z) (σ := σ) (k := k) h1 h2 h3 h4)
  have HN : Hid (NetPost w g A (clN z σ σ.ps.length) w) := Lib.hid (by rw [clN_full]; exact NetP.same (.refl _ _) h)
  have H4 := Lib.hid h4
  clear h hp h1 h2 h3 h4
  go_enter Try.func16, Try.ntmps16
  go_wp2_with fail
  refine HL.out.mono ?_
  rintro e w1 ⟨rfl, rfl⟩
  have hkb : σ.ps.length ≤ 60 := H4.out
  clear HL
  go_wp2_with fail
  go_loopw [5, 6] (fun v i wr => ∃ k : Nat, k ≤ σ.ps.length ∧ v = .int .i64 (gone z (σ.ps.drop k) : Nat) ∧ i = .int .i64 ((k : Int) - 1) ∧ Hid (NetPost w g A (clN z σ k) wr)) (fun _ i _ => (intOf i + 1).toNat)
  case atStart => exact ⟨σ.ps.length, Nat.le_refl _, by rw [List.drop_length]; rfl, rfl, HN⟩
  case round =>
    clear HN
    obtain ⟨k, hk, rfl, rfl, HN⟩ := hrel
    cases k with
    | zero =>
      rw [show ((0 : Nat) : Int) - 1 = -1 from rfl, List.drop_zero]
      have HF : Hid (NetPost w g A (cleanN z σ) wr) := Lib.hid (by rw [← clN_zero]; exact HN.out)
      go_wp2_with fail
      go_ret
      exact ⟨rfl, HF.out⟩
    | succ m =>
      have hm : m < σ.ps.length := by omega
      have hmb : m ≤ 60 := by omega
      rw [show ((m + 1 : Nat) : Int) - 1 = (m : Int) by push_cast; omega]
      have HM := Lib.hid hm
      have HSz := Lib.hid (Hp.out σ.ps[m] (List.getElem_mem hm)).2
      have hgl := gone_le z (σ.ps.drop (m + 1))
      have hGb : gone z (σ.ps.drop (m + 1)) ≤ 60 := by rw [List.length_drop] at hgl; omega
      obtain ⟨A1, c1, hN, k1, C1⟩ := HN.out
      have HA := Lib.hid (netAt_any wr g A1 c1 _ hN (m : Int))
      rw [clN_at hm, hasE_in (show inN (clN z σ (m + 1)) (m : Int) by have := clN_len (z := z) hm; unfold inN; omega)] at HA
      have HK := Lib.hid (fun h => clN_keep (z := z) hm h)
      have HLo := Lib.hid (fun h => clN_lose (z := z) hm h)
      generalize σ.ps[m] = p at HA HSz HK HLo
      obtain ⟨x, s⟩ := p
      have HN1 := Lib.hid hN
      have HK1 := Lib.hid k1
      have HC1 := Lib.hid C1
      clear hN k1 C1 hgl hm
      obtain ⟨G, hG⟩ : ∃ G, gone z (σ.ps.drop (m + 1)) = G := ⟨_, rfl⟩
      rw [hG] at hGb HK HLo ⊢
      clear hG
      go_wp2_with fail
      refine HA.out.mono ?_
      rintro e w1 ⟨rfl, hb1⟩
      obtain ⟨hb2, hg2, hs2⟩ := alloc1 w1 #[.int .i64 x, .string s] 51
      have HB2 := Lib.hid (show Below wr.heap.size wr _ from hb1.trans (hb2.mono (B' := wr.heap.size) hb1.size))
      obtain ⟨b0, b1, _, _⟩ := cells2 hg2
      rw [show ((0 : Nat) : Int) = 0 from rfl]
      clear HA hb1 hb2 hg2 hs2
      go_wp2_with (refine wpList_bytes_of rfl (.tmp 28) rfl s rfl ?_)
      intro A3 c3 W3 hr hc hb3
      have HG := Lib.hid (frGet_any W3 A3 c3 (bl s) hr (by rw [bl_length]; exact hc) (by rw [bl_length]; have : s.size ≤ 100000 := HSz.out; omega))
      have hb2s := HB2.out.size
      have HB3 := Lib.hid (HB2.out.trans (hb3.mono (B' := wr.heap.size) (by simpa only [size_alloc] using hb2s)))
      have HKe : Hid (keepB z (x, s) = (decide (getE (bl s) = 0) && decide (((getX (bl s)).s : Int) = z))) := Lib.hid rfl
      generalize getX (bl s) = y at HG HKe
      obtain ⟨e1, he1⟩ : ∃ e1, getE (bl s) = e1 := ⟨_, rfl⟩
      rw [he1] at HG HKe
      unfold Fr.cells at HG
      clear he1 hr hc hb3 b0 b1 HB2 hb2s
      go_wp2_with fail
      refine HG.out.mono ?_
      rintro e W4 ⟨A4, c4, rfl, ho⟩
      have hb4 := ho.2.2
      obtain ⟨hb5, hg5, hs5⟩ := alloc1 W4 #[.int .i64 y.k, .int .u64 (y.s : Int), .int .u64 (y.e : Int), .int .u32 (y.q : Int), .int .u32 (y.v : Int), .int .i64 y.n, .int .i64 y.f, .int .i64 y.i, .int .i64 y.c, .string y.d, .slice A4 y.l.length c4] 58
      obtain ⟨_, d1, _⟩ := cells11 hg5
      have hB5 := (HB3.out.trans (hb4.mono (B' := wr.heap.size) HB3.out.size)).trans (hb5.mono (B' := wr.heap.size) (Nat.le_trans HB3.out.size hb4.size))
      have HB5 := Lib.hid hB5
      clear ho hb4 hb5 hg5 hs5 HG HB3 hB5
      by_cases he : e1 = 0
      · subst he
        rw [show ((0 : Nat) : Int) = 0 from rfl]
        by_cases hz : (y.s : Int) = z
        · have hzz : ((y.s : Int) == z) = true := by rw [beq_iff_eq]; exact hz
          have HKt := Lib.hid (HK.out (by rw [HKe.out]; simp [hz]))
          clear hz
          go_wp2_with fail
          case roundEnd =>
            exact ⟨⟨m, by omega, by rw [HKt.out.2], rfl, Lib.hid (by rw [HKt.out.1]; exact HN.out.keep HB5.out)⟩, by simp only [intOf]; omega⟩
        · have hzz : ((y.s : Int) == z) = false := by rw [beq_eq_false_iff_ne]; exact hz
          have HKf := Lib.hid (show keepB z (x, s) = false from by rw [HKe.out]; simp [hz])
          clear hz
          go_wp2_with fail
          clear hzz d1
          have HLs := Lib.hid (netLose_any _ g A1 c1 _ (HOk.out (m + 1)) (HN1.out.chg (F := fun _ => False) (.of_below HB5.out) (fun _ _ f => f)) (m : Int))
          rw [(HLo.out HKf.out).1, hasE_in (show inN (clN z σ (m + 1)) (m : Int) by have := clN_len (z := z) HM.out; unfold inN; omega)] at HLs
          refine HLs.out.mono ?_
          rintro e w6 ⟨rfl, hP⟩
          have HP := Lib.hid (hP.step (fun k hk => (HK1.out k hk).imp id (fun h => h)) (HC1.out.trans (Chg.of_below (F := fun _ => False) HB5.out) (fun _ _ f => f.elim)))
          have HG2 := Lib.hid (HLo.out HKf.out).2
          clear hP HLs
          rw [show ((0 : Nat) : Int) = 0 from rfl]
          go_wp2_with fail
          case roundEnd =>
            exact ⟨⟨m, by omega, by rw [HG2.out]; push_cast; rfl, rfl, HP⟩, by simp only [intOf]; omega⟩
      · have hzz : ((e1 : Int) == 0) = false := by rw [beq_eq_false_iff_ne]; omega
        have HKf := Lib.hid (show keepB z (x, s) = false from by rw [HKe.out]; simp [he])
        clear he
        go_wp2_with fail
        clear hzz d1
        have HLs := Lib.hid (netLose_any _ g A1 c1 _ (HOk.out (m + 1)) (HN1.out.chg (F := fun _ => False) (.of_below HB5.out) (fun _ _ f => f)) (m : Int))
        rw [(HLo.out HKf.out).1, hasE_in (show inN (clN z σ (m + 1)) (m : Int) by have := clN_len (z := z) HM.out; unfold inN; omega)] at HLs
        refine HLs.out.mono ?_
        rintro e w6 ⟨rfl, hP⟩
        have HP := Lib.hid (hP.step (fun k hk => (HK1.out k hk).imp id (fun h => h)) (HC1.out.trans (Chg.of_below (F := fun _ => False) HB5.out) (fun _ _ f => f.elim)))
        have HG2 := Lib.hid (HLo.out HKf.out).2
        clear hP HLs
        rw [show ((0 : Nat) : Int) = 0 from rfl]
        go_wp2_with fail
        case roundEnd =>
          exact ⟨⟨m, by omega, by rw [HG2.out]; push_cast; rfl, rfl, HP⟩, by simp only [intOf]; omega⟩
end Go.Proofs.Ytebcginnnjigjaa
