/- The walk of WordReads. -/
import Derived.Test.YtlfclpdcingpnaaLaw01
import Derived.Test.YtlfclpdcingpnaaRefReader
open Go.RowKit
namespace Go.Proofs.Ytlfclpdcingpnaa

/-- Steps, as cells. -/
def stv (l : List (Bool × Int)) : List Value := l.flatMap fun s => [.bool s.1, .int .i64 s.2]
theorem stv_length (l : List (Bool × Int)) : (stv l).length = l.length * 2 := by
  induction l with
  | nil => rfl
  | cons s l ih => simp only [stv, List.flatMap_cons, List.length_append, List.length_cons, List.length_nil] at *; omega
theorem stv_get (l : List (Bool × Int)) : ∀ (k : Nat) (hk : k < l.length), (stv l)[k * 2]? = some (.bool l[k].1) ∧ (stv l)[k * 2 + 1]? = some (.int .i64 l[k].2) := by
  induction l with
  | nil => intro k hk; simp at hk
  | cons s l ih =>
    intro k hk
    cases k with
    | zero => exact ⟨rfl, rfl⟩
    | succ k =>
      have := ih k (by simpa using hk)
      have e1 : (k + 1) * 2 = k * 2 + 1 + 1 := by omega
      have e2 : (k + 1) * 2 + 1 = k * 2 + 1 + 1 + 1 := by omega
      rw [e1]
      simpa [stv] using this

theorem addrNext (ad : Addr) (n : Nat) : (⟨(ad.add n).block, (ad.add n).off + 1, none⟩ : Addr) = ad.add (n + 1) := by
  unfold Addr.add
  split
  · rename_i h; subst h; rfl
  · simp [Nat.add_assoc]
theorem Reads.keepsU {M : List Nat} {w w' : World} {A : Option Addr} {l : List UInt8} (h : Reads w 1 A l.length (bv l)) (hk : KeepsBut M w w')
    (hM : ∀ g ∈ M, ∃ cs t fr, w.heap[g]? = some (.cells cs t fr) ∧ ∀ b : UInt8, (.int .u8 (b.toNat : Int)) ∉ cs) : Reads w' 1 A l.length (bv l) := by
  refine ⟨h.1, fun hn => ?_⟩
  obtain ⟨ad, e, hc⟩ := h.2 hn
  refine ⟨ad, e, fun j u hu => ?_⟩
  have h1 := hc j u hu
  refine hk.cell h1 (fun hm => ?_)
  obtain ⟨cs, t, fr, hg, hcs⟩ := hM _ hm
  have e2 : ad.add j = ⟨(ad.add j).block, (ad.add j).off, (ad.add j).spot⟩ := rfl
  have hu' : u ∈ bv l := List.mem_of_getElem? hu
  simp only [bv, List.mem_map] at hu'
  obtain ⟨b, _, rfl⟩ := hu'
  rw [World.cell?, hg] at h1
  by_cases hs : (ad.add j).spot.isSome = true
  · simp [hs] at h1
  · simp only [hs] at h1
    exact hcs b (Array.mem_of_getElem? h1)
theorem IsR.none_u8 {w : World} {g : Nat} {l : List UInt8} {e : Nat} (h : IsR w g l e) : ∃ cs t fr, w.heap[g]? = some (.cells cs t fr) ∧ ∀ b : UInt8, (.int .u8 (b.toNat : Int)) ∉ cs := by
  obtain ⟨A, c, h1, _⟩ := h
  exact ⟨_, _, _, h1, fun b hb => by simp at hb⟩
theorem IsS.none_u8 {w : World} {g : Nat} {A : Option Addr} {c : Nat} {B : List UInt8} {k e : Nat} (h : IsS w g A c B k e) : ∃ cs t fr, w.heap[g]? = some (.cells cs t fr) ∧ ∀ b : UInt8, (.int .u8 (b.toNat : Int)) ∉ cs :=
  ⟨_, _, _, h.1, fun b hb => by simp at hb⟩
theorem below_of_grown {B g : Nat} {w w' : World} (h : w.grownBy w' (some g)) (hB : B ≤ g) (hs : B ≤ w.heap.size) : Below B w w' := by
  exact ⟨h.os, h.tape, h.output, h.size, fun k hk => h.block k (by omega) (by rintro e; injection e with e; omega)⟩
theorem keeps_of_grown {M : List Nat} {w w' : World} {g : Nat} (h : w.grownBy w' (some g)) (hg : g ∈ M) : KeepsBut M w w' :=
  ⟨h.size, fun i hi hm => h.block i hi (by rintro e; injection e with e; exact hm (e ▸ hg))⟩

theorem below_drewN (b : Nat) (w : World) (n : Nat) : Below b w (w.drewN n) := ⟨rfl, rfl, rfl, Nat.le_refl _, fun _ _ => rfl⟩

set_option maxHeartbeats 2000000 in
set_option maxRecDepth 100000 in
theorem wordReads_any (A : Option Addr) (B : List UInt8) (c : Nat) (AL : Option Addr) (st : List (Bool × Int)) (cl : Nat) (w : World) (hr : Reads w 1 A B.length (bv B)) (hc : B.length ≤ c) (hm : B.length ≤ maxLen) (hl : B.length ≤ 140737488355328)
    (hs : Reads w 2 AL st.length (stv st)) :
    Calls Try.prog 8 #[.slice A B.length c, .slice AL st.length cl] w fun e w' => e = .returned (.bool true) ∧ Below w.heap.size w w' := by
  have Hr := Lib.hid hr
  have Hm := Lib.hid hm
  have Hs := Lib.hid hs
  clear hr hm hs
  go_enter Try.func8, Try.ntmps8
  go_wp2_with fail
  refine (new_any A B c w Hr.out hl).mono ?_
  rintro e w1 ⟨g, rfl, hR, hg, hb⟩
  have HR1 := Lib.hid hR
  have Hb1 := Lib.hid hb
  have hgl := hR.lt
  clear hR hb
  go_wp2
  obtain ⟨g2, hg2⟩ : ∃ g2, w1.heap.size = g2 := ⟨_, rfl⟩
  have hne : g ≠ g2 := by omega
  have hw1 : w.heap.size ≤ g2 := by omega
  have HS1 : Hid (IsS (w1.alloc (.cells #[.slice A B.length c, .int .i64 0, .int .i64 0] 44)) g2 A c B 0 0) := by
    rw [← hg2]
    exact ⟨heap_alloc_new _ _, (Hr.out.below Hb1.out).alloc _, hc, Hm.out, Nat.zero_le _⟩
  have HR2 := Lib.hid (HR1.out.below ((Below.refl _ w1).alloc (Nat.le_refl _) (.cells #[.slice A B.length c, .int .i64 0, .int .i64 0] 44)))
  have Hb2 := Lib.hid (Hb1.out.alloc Hb1.out.size (.cells #[.slice A B.length c, .int .i64 0, .int .i64 0] 44))
  rw [hg2]
  generalize w1.alloc (.cells #[.slice A B.length c, .int .i64 0, .int .i64 0] 44) = w2 at HS1 HR2 Hb2 ⊢
  clear hg2 hgl HR1 Hb1
  go_loopw [7] (fun i wr => ∃ (k : Nat) (l : List UInt8) (e p : Nat), k ≤ st.length ∧ i = .int .i64 k ∧ Hid (IsR wr g l e) ∧ Hid (IsS wr g2 A c B p e) ∧ Hid (l = B.drop p) ∧ Hid (Below w.heap.size w wr)) (fun i _ => st.length - (intOf i).toNat)
  case atStart => exact ⟨0, B, 0, 0, by omega, rfl, HR2, HS1, by show _ = _; simp, Hb2⟩
  case round =>
    obtain ⟨k, l, e, p, hk, rfl, HR, HS, Hl, Hb⟩ := hrel
    clear HS1 HR2 Hb2
    by_cases hlt : k < st.length
    · by_cases h100 : k < 100
      · obtain ⟨ad, rfl, hcell⟩ := Hs.out.2 (by omega)
        obtain ⟨hc0, hc1⟩ := stv_get st k hlt
        have hc0' := hcell _ _ hc0
        have hc1' := hcell _ _ hc1
        generalize st[k].1 = b at hc0 hc0'
        generalize st[k].2 = x at hc1 hc1'
        have hbl : ad.block < w.heap.size := by have := World.block_lt_of_cell? _ _ hc0'; rwa [block_of_add] at this
        have hcr0 := (Hb.out.cell (p := ad.add (k * 2)) (by rw [block_of_add]; exact hbl)).trans hc0'
        have hcr1 := (Hb.out.cell (p := ad.add (k * 2 + 1)) (by rw [block_of_add]; exact hbl)).trans hc1'
        clear hcell hc0 hc1 hc0' hc1'
        have hl' := Hl.out
        subst hl'
        have hgb : g ≠ ad.block ∧ g2 ≠ ad.block := ⟨by omega, by omega⟩
        have q0 := fun w' (hk : KeepsBut [g, g2] wr.drew w') => hk.cell (p := ad.add (k * 2)) (v := .bool b) hcr0 (by rw [block_of_add]; simp; omega)
        have q1 := fun w' (hk : KeepsBut [g, g2] wr.drew w') => hk.cell (p := ⟨(ad.add (k * 2)).block, (ad.add (k * 2)).off + 1, none⟩) (v := .int .i64 x) (by rw [addrNext]; exact hcr1) (by show (ad.add (k * 2)).block ∉ _; rw [block_of_add]; simp; omega)
        cases b
        · go_wp2
          refine wp_region_mix (KeepsBut [g, g2]) (KeepsBut.refl [g, g2]) (KeepsBut.trans [g, g2]) [] [(true,0), (true,1), (true,2), (true,3), (true,4), (true,5), (true,7), (true,8), (true,9), (true,10), (true,11), (true,12), (false,6), (false,13), (true,14)] (by kernel_rfl) (by kernel_rfl) (fun d _ _ _ _ h => by cases d <;> exact h) ?_
          repeat (first
            | (refine mix_pure (v := ?_) rfl rfl ?_ (mix_norm (a' := ?_) ?_ ?_)
               rotate_left
               focus (intro w' hR; go_simp; first | done | (with_reducible rfl))
               rotate_left
               focus (simp only [Act.put, List.getElem_toArray, List.getElem_cons_zero, List.getElem_cons_succ, List.setIfInBounds_toArray, List.set_cons_zero, List.set_cons_succ]; rfl))
            | (refine mix_off rfl rfl (mix_norm (a' := ?_) ?_ ?_)
               rotate_left
               focus (simp only [Act.put, List.getElem_toArray, List.getElem_cons_zero, List.getElem_cons_succ, List.setIfInBounds_toArray, List.set_cons_zero, List.set_cons_succ]; rfl)))
          refine mix_eff rfl ?_
          simp only [List.getElem_toArray, List.getElem_cons_zero, List.getElem_cons_succ]
          go_wp2_with fail
          refine (num_any g (B.drop p) e x wr.drew HR.out).mono ?_
          rintro r w3 ⟨rfl, hR3, hk3⟩
          have HR3 := Lib.hid hR3
          have Hk3 := Lib.hid hk3
          have HS3 := Lib.hid (IsS.keepR (w := wr.drew) HS.out HR.out hk3 hne)
          clear hR3 hk3
          go_wp2_with fail
          refine mixQ_normal (keeps_of_grown Hk3.out (by simp)) rfl ?_
          repeat (first
            | (refine mix_pure (v := ?_) rfl rfl ?_ (mix_norm (a' := ?_) ?_ ?_)
               rotate_left
               focus (intro w' hR; go_simp; first | done | (with_reducible rfl))
               rotate_left
               focus (simp only [Act.put, List.getElem_toArray, List.getElem_cons_zero, List.getElem_cons_succ, List.setIfInBounds_toArray, List.set_cons_zero, List.set_cons_succ]; rfl))
            | (refine mix_off rfl rfl (mix_norm (a' := ?_) ?_ ?_)
               rotate_left
               focus (simp only [Act.put, List.getElem_toArray, List.getElem_cons_zero, List.getElem_cons_succ, List.setIfInBounds_toArray, List.set_cons_zero, List.set_cons_succ]; rfl)))
          refine mix_eff rfl ?_
          simp only [List.getElem_toArray, List.getElem_cons_zero, List.getElem_cons_succ]
          go_wp2_with fail
          refine (refNum_any g2 A c B p e x w3 HS3.out).mono ?_
          rintro r w4 ⟨rfl, hS4, hk4⟩
          obtain ⟨p5, hS4, hp5⟩ := hS4
          have HS4 := Lib.hid hS4
          have HR4 := Lib.hid (IsR.keepS HR3.out HS3.out hk4 hne)
          have Hk4 := Lib.hid hk4
          have Hp5 := Lib.hid hp5
          clear hS4 hk4 hp5
          go_wp2_with fail
          refine mixQ_normal (keeps_of_grown Hk4.out (by simp)) rfl ?_
          clear q0 q1
          repeat (first
            | (refine mix_pure (v := ?_) rfl rfl ?_ (mix_norm (a' := ?_) ?_ ?_)
               rotate_left
               focus (intro w' hR; go_simp; first | done | (with_reducible rfl))
               rotate_left
               focus (simp only [Act.put, List.getElem_toArray, List.getElem_cons_zero, List.getElem_cons_succ, List.setIfInBounds_toArray, List.set_cons_zero, List.set_cons_succ]; rfl))
            | (refine mix_off rfl rfl (mix_norm (a' := ?_) ?_ ?_)
               rotate_left
               focus (simp only [Act.put, List.getElem_toArray, List.getElem_cons_zero, List.getElem_cons_succ, List.setIfInBounds_toArray, List.set_cons_zero, List.set_cons_succ]; rfl)))
          refine mix_done ?_
          go_wp2
          have Hb4 : Hid (Below w.heap.size w w4) := Lib.hid ((Hb.out.drew.trans (below_of_grown Hk3.out (by exact hg) Hb.out.drew.size)).trans (below_of_grown Hk4.out hw1 (Nat.le_trans Hb.out.drew.size Hk3.out.size)))
          obtain ⟨hS1, hS2, _⟩ := id HS4.out
          have hq2 : w4.cell? ⟨g2, 2, none⟩ = some (.int .i64 (rNumE (B.drop p) e x : Nat)) := by rw [cell_of_row _ _ _ _ _ _ hS1]; rfl
          clear hS1 hS2
          refine wp_region_mix (KeepsBut []) (KeepsBut.refl []) (KeepsBut.trans []) [] [(true,0), (true,2), (false,1), (false,3), (true,4), (true,5), (true,6), (true,8), (true,9), (true,10), (true,11), (false,7), (true,12), (true,13)] (by kernel_rfl) (by kernel_rfl) (fun d _ _ _ _ h => by cases d <;> exact h) ?_
          repeat (first
            | (refine mix_pure (v := ?_) rfl rfl ?_ (mix_norm (a' := ?_) ?_ ?_)
               rotate_left
               focus (intro w' hR; go_simp; first | done | (with_reducible rfl))
               rotate_left
               focus (simp only [Act.put, List.getElem_toArray, List.getElem_cons_zero, List.getElem_cons_succ, List.setIfInBounds_toArray, List.set_cons_zero, List.set_cons_succ]; rfl))
            | (refine mix_off rfl rfl (mix_norm (a' := ?_) ?_ ?_)
               rotate_left
               focus (simp only [Act.put, List.getElem_toArray, List.getElem_cons_zero, List.getElem_cons_succ, List.setIfInBounds_toArray, List.set_cons_zero, List.set_cons_succ]; rfl)))
          refine mix_eff rfl ?_
          simp only [List.getElem_toArray, List.getElem_cons_zero, List.getElem_cons_succ]
          go_wp2_with fail
          refine (left_any g _ _ w4.drew HR4.out).mono ?_
          rintro r w5 ⟨rfl, rfl⟩
          go_wp2_with fail
          refine mixQ_normal (KeepsBut.refl _ _) rfl ?_
          refine mix_eff rfl ?_
          simp only [List.getElem_toArray, List.getElem_cons_zero, List.getElem_cons_succ]
          go_wp2_with fail
          refine (refLeft_any g2 A c B p5 _ w4.drew HS4.out).mono ?_
          rintro r w5 ⟨rfl, n, rfl⟩
          rw [Hp5.out]
          go_wp2_with fail
          refine mixQ_normal (by exact KeepsBut.refl _ _) rfl ?_
          have q2 := fun w' (hk : KeepsBut [] (w4.drewN (1 + n)) w') => hk.cell (p := ⟨g2, 2, none⟩) (by exact hq2) (by simp)
          repeat (first
            | (refine mix_pure (v := ?_) rfl rfl ?_ (mix_norm (a' := ?_) ?_ ?_)
               rotate_left
               focus (intro w' hR; go_simp; first | done | (with_reducible rfl))
               rotate_left
               focus (simp only [Act.put, List.getElem_toArray, List.getElem_cons_zero, List.getElem_cons_succ, List.setIfInBounds_toArray, List.set_cons_zero, List.set_cons_succ]; rfl))
            | (refine mix_off rfl rfl (mix_norm (a' := ?_) ?_ ?_)
               rotate_left
               focus (simp only [Act.put, List.getElem_toArray, List.getElem_cons_zero, List.getElem_cons_succ, List.setIfInBounds_toArray, List.set_cons_zero, List.set_cons_succ]; rfl)))
          refine mix_eff rfl ?_
          simp only [List.getElem_toArray, List.getElem_cons_zero, List.getElem_cons_succ]
          go_wp2_with fail
          refine (why_any g _ _ (w4.drewN (1 + n)) HR4.out).mono ?_
          rintro r w5 ⟨rfl, rfl⟩
          go_wp2_with fail
          refine mixQ_normal (KeepsBut.refl _ _) rfl ?_
          repeat (first
            | (refine mix_pure (v := ?_) rfl rfl ?_ (mix_norm (a' := ?_) ?_ ?_)
               rotate_left
               focus (intro w' hR; go_simp; first | done | (with_reducible rfl))
               rotate_left
               focus (simp only [Act.put, List.getElem_toArray, List.getElem_cons_zero, List.getElem_cons_succ, List.setIfInBounds_toArray, List.set_cons_zero, List.set_cons_succ]; rfl))
            | (refine mix_off rfl rfl (mix_norm (a' := ?_) ?_ ?_)
               rotate_left
               focus (simp only [Act.put, List.getElem_toArray, List.getElem_cons_zero, List.getElem_cons_succ, List.setIfInBounds_toArray, List.set_cons_zero, List.set_cons_succ]; rfl)))
          refine mix_done ?_
          go_wp2
          refine ⟨⟨k + 1, _, _, p5, by omega, by rw [Int.natCast_add]; rfl, HR4, HS4, Lib.hid Hp5.out.symm, Lib.hid (Hb4.out.trans (below_drewN _ _ _))⟩, ?_⟩
          simp only [intOf]; omega
        · go_wp2
          refine wp_region_mix (KeepsBut [g, g2]) (KeepsBut.refl [g, g2]) (KeepsBut.trans [g, g2]) [] [(true,0), (true,1), (true,2), (true,3), (true,4), (true,5), (true,8), (true,9), (true,10), (true,11), (true,12), (true,13), (false,6), (true,7), (false,14), (true,15), (true,16)] (by kernel_rfl) (by kernel_rfl) (fun d _ _ _ _ h => by cases d <;> exact h) ?_
          repeat (first
            | (refine mix_pure (v := ?_) rfl rfl ?_ (mix_norm (a' := ?_) ?_ ?_)
               rotate_left
               focus (intro w' hR; go_simp; first | done | (with_reducible rfl))
               rotate_left
               focus (simp only [Act.put, List.getElem_toArray, List.getElem_cons_zero, List.getElem_cons_succ, List.setIfInBounds_toArray, List.set_cons_zero, List.set_cons_succ]; rfl))
            | (refine mix_off rfl rfl (mix_norm (a' := ?_) ?_ ?_)
               rotate_left
               focus (simp only [Act.put, List.getElem_toArray, List.getElem_cons_zero, List.getElem_cons_succ, List.setIfInBounds_toArray, List.set_cons_zero, List.set_cons_succ]; rfl)))
          refine mix_eff rfl ?_
          simp only [List.getElem_toArray, List.getElem_cons_zero, List.getElem_cons_succ]
          go_wp2_with fail
          refine (bytes_any g (B.drop p) e x wr.drew HR.out (by rw [List.length_drop]; omega)).mono ?_
          rintro r w3 ⟨A1, c1, rfl, ho3, hR3, hk3⟩
          have q3 := fun w' (hk : KeepsBut [g, g2] w3 w') => run_string_of_bytes (w := w') c1 (Reads.keepsU ho3.reads hk (by rintro m hm; simp only [List.mem_cons, List.mem_nil_iff, or_false] at hm; rcases hm with rfl | rfl; exact hR3.none_u8; exact (IsS.keepR (w := wr.drew) HS.out HR.out hk3 hne).none_u8))
          clear ho3
          have HR3 := Lib.hid hR3
          have Hk3 := Lib.hid hk3
          have HS3 := Lib.hid (IsS.keepR (w := wr.drew) HS.out HR.out hk3 hne)
          clear hR3 hk3
          go_wp2_with fail
          refine mixQ_normal (keeps_of_grown Hk3.out (by simp)) rfl ?_
          repeat (first
            | (refine mix_pure (v := ?_) rfl rfl ?_ (mix_norm (a' := ?_) ?_ ?_)
               rotate_left
               focus (intro w' hR; go_simp; first | done | (with_reducible rfl))
               rotate_left
               focus (simp only [Act.put, List.getElem_toArray, List.getElem_cons_zero, List.getElem_cons_succ, List.setIfInBounds_toArray, List.set_cons_zero, List.set_cons_succ]; rfl))
            | (refine mix_off rfl rfl (mix_norm (a' := ?_) ?_ ?_)
               rotate_left
               focus (simp only [Act.put, List.getElem_toArray, List.getElem_cons_zero, List.getElem_cons_succ, List.setIfInBounds_toArray, List.set_cons_zero, List.set_cons_succ]; rfl)))
          clear q3
          refine mix_eff rfl ?_
          simp only [List.getElem_toArray, List.getElem_cons_zero, List.getElem_cons_succ]
          go_wp2_with fail
          refine (refBytes_any g2 A c B p e x w3 HS3.out).mono ?_
          rintro r w4 ⟨A2, c2, rfl, hA2, hS4, hk4⟩
          obtain ⟨p5, hS4, hp5⟩ := hS4
          have q4 := fun w' (hk : KeepsBut [g, g2] w4 w') => run_string_of_bytes (w := w') c2 (Reads.keepsU (hA2 _ hS4.2.1) hk (by rintro m hm; simp only [List.mem_cons, List.mem_nil_iff, or_false] at hm; rcases hm with rfl | rfl; exact (IsR.keepS HR3.out HS3.out hk4 hne).none_u8; exact hS4.none_u8))
          clear hA2
          have HS4 := Lib.hid hS4
          have HR4 := Lib.hid (IsR.keepS HR3.out HS3.out hk4 hne)
          have Hk4 := Lib.hid hk4
          have Hp5 := Lib.hid hp5
          clear hS4 hk4 hp5
          go_wp2_with fail
          refine mixQ_normal (keeps_of_grown Hk4.out (by simp)) rfl ?_
          clear q0 q1
          repeat (first
            | (refine mix_pure (v := ?_) rfl rfl ?_ (mix_norm (a' := ?_) ?_ ?_)
               rotate_left
               focus (intro w' hR; go_simp; first | done | (with_reducible rfl))
               rotate_left
               focus (simp only [Act.put, List.getElem_toArray, List.getElem_cons_zero, List.getElem_cons_succ, List.setIfInBounds_toArray, List.set_cons_zero, List.set_cons_succ]; rfl))
            | (refine mix_off rfl rfl (mix_norm (a' := ?_) ?_ ?_)
               rotate_left
               focus (simp only [Act.put, List.getElem_toArray, List.getElem_cons_zero, List.getElem_cons_succ, List.setIfInBounds_toArray, List.set_cons_zero, List.set_cons_succ]; rfl)))
          clear q4
          refine mix_done ?_
          go_wp2
          have Hb4 : Hid (Below w.heap.size w w4) := Lib.hid ((Hb.out.drew.trans (below_of_grown Hk3.out (by exact hg) Hb.out.drew.size)).trans (below_of_grown Hk4.out hw1 (Nat.le_trans Hb.out.drew.size Hk3.out.size)))
          obtain ⟨hS1, hS2, _⟩ := id HS4.out
          have hq2 : w4.cell? ⟨g2, 2, none⟩ = some (.int .i64 (rBytesE (B.drop p) e x : Nat)) := by rw [cell_of_row _ _ _ _ _ _ hS1]; rfl
          clear hS1 hS2
          refine wp_region_mix (KeepsBut []) (KeepsBut.refl []) (KeepsBut.trans []) [] [(true,0), (true,2), (false,1), (false,3), (true,4), (true,5), (true,6), (true,8), (true,9), (true,10), (true,11), (false,7), (true,12), (true,13)] (by kernel_rfl) (by kernel_rfl) (fun d _ _ _ _ h => by cases d <;> exact h) ?_
          repeat (first
            | (refine mix_pure (v := ?_) rfl rfl ?_ (mix_norm (a' := ?_) ?_ ?_)
               rotate_left
               focus (intro w' hR; go_simp; first | done | (with_reducible rfl))
               rotate_left
               focus (simp only [Act.put, List.getElem_toArray, List.getElem_cons_zero, List.getElem_cons_succ, List.setIfInBounds_toArray, List.set_cons_zero, List.set_cons_succ]; rfl))
            | (refine mix_off rfl rfl (mix_norm (a' := ?_) ?_ ?_)
               rotate_left
               focus (simp only [Act.put, List.getElem_toArray, List.getElem_cons_zero, List.getElem_cons_succ, List.setIfInBounds_toArray, List.set_cons_zero, List.set_cons_succ]; rfl)))
          refine mix_eff rfl ?_
          simp only [List.getElem_toArray, List.getElem_cons_zero, List.getElem_cons_succ]
          go_wp2_with fail
          refine (left_any g _ _ w4.drew HR4.out).mono ?_
          rintro r w5 ⟨rfl, rfl⟩
          go_wp2_with fail
          refine mixQ_normal (KeepsBut.refl _ _) rfl ?_
          refine mix_eff rfl ?_
          simp only [List.getElem_toArray, List.getElem_cons_zero, List.getElem_cons_succ]
          go_wp2_with fail
          refine (refLeft_any g2 A c B p5 _ w4.drew HS4.out).mono ?_
          rintro r w5 ⟨rfl, n, rfl⟩
          rw [Hp5.out]
          go_wp2_with fail
          refine mixQ_normal (by exact KeepsBut.refl _ _) rfl ?_
          have q2 := fun w' (hk : KeepsBut [] (w4.drewN (1 + n)) w') => hk.cell (p := ⟨g2, 2, none⟩) (by exact hq2) (by simp)
          repeat (first
            | (refine mix_pure (v := ?_) rfl rfl ?_ (mix_norm (a' := ?_) ?_ ?_)
               rotate_left
               focus (intro w' hR; go_simp; first | done | (with_reducible rfl))
               rotate_left
               focus (simp only [Act.put, List.getElem_toArray, List.getElem_cons_zero, List.getElem_cons_succ, List.setIfInBounds_toArray, List.set_cons_zero, List.set_cons_succ]; rfl))
            | (refine mix_off rfl rfl (mix_norm (a' := ?_) ?_ ?_)
               rotate_left
               focus (simp only [Act.put, List.getElem_toArray, List.getElem_cons_zero, List.getElem_cons_succ, List.setIfInBounds_toArray, List.set_cons_zero, List.set_cons_succ]; rfl)))
          refine mix_eff rfl ?_
          simp only [List.getElem_toArray, List.getElem_cons_zero, List.getElem_cons_succ]
          go_wp2_with fail
          refine (why_any g _ _ (w4.drewN (1 + n)) HR4.out).mono ?_
          rintro r w5 ⟨rfl, rfl⟩
          go_wp2_with fail
          refine mixQ_normal (KeepsBut.refl _ _) rfl ?_
          repeat (first
            | (refine mix_pure (v := ?_) rfl rfl ?_ (mix_norm (a' := ?_) ?_ ?_)
               rotate_left
               focus (intro w' hR; go_simp; first | done | (with_reducible rfl))
               rotate_left
               focus (simp only [Act.put, List.getElem_toArray, List.getElem_cons_zero, List.getElem_cons_succ, List.setIfInBounds_toArray, List.set_cons_zero, List.set_cons_succ]; rfl))
            | (refine mix_off rfl rfl (mix_norm (a' := ?_) ?_ ?_)
               rotate_left
               focus (simp only [Act.put, List.getElem_toArray, List.getElem_cons_zero, List.getElem_cons_succ, List.setIfInBounds_toArray, List.set_cons_zero, List.set_cons_succ]; rfl)))
          refine mix_done ?_
          go_wp2
          refine ⟨⟨k + 1, _, _, p5, by omega, by rw [Int.natCast_add]; rfl, HR4, HS4, Lib.hid Hp5.out.symm, Lib.hid (Hb4.out.trans (below_drewN _ _ _))⟩, ?_⟩
          simp only [intOf]; omega
      · go_wp2_with (go_at_call 21; refine (known01_any _).mono ?_; rintro e w3 ⟨rfl, hb3⟩)
        go_ret
        exact ⟨rfl, below_fresh Hb.out hb3⟩
    · go_wp2_with (go_at_call 21; refine (known01_any _).mono ?_; rintro e w3 ⟨rfl, hb3⟩)
      go_ret
      exact ⟨rfl, below_fresh Hb.out hb3⟩

end Go.Proofs.Ytlfclpdcingpnaa
