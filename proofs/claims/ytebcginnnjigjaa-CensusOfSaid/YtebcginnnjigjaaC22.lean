/- frame.read walked. -/
import Derived.Test.YtebcginnnjigjaaC21
import Derived.WalkMore
import Derived.ScopeJumps
open Go.RowKit
namespace Go.Proofs.Ytebcginnnjigjaa

set_option maxHeartbeats 4000000 in
set_option maxRecDepth 100000 in
theorem frRead_any (w : World) (A0 : Option Addr) (c0 : Nat) (b : List UInt8) (hr : Reads w 1 A0 b.length (bv b)) (hl : b.length ≤ 1000000) :
    Calls Try.prog 36 #[.slice A0 b.length c0] w fun e w' => ∃ A c, e = .returned (.tuple #[.agg ((readF b).1.cells A c), .bool (okS (readF b).2)]) ∧ SOut w w' A c (readF b).1.l := by
  obtain ⟨hb1, hg1, hs1⟩ := alloc1 w fr0c 58
  have HN := Lib.hid (newB_any A0 b c0 _ (hr.below hb1) (by omega))
  have HA := Lib.hid (And.intro hb1 (And.intro hg1 hs1))
  have HL := Lib.hid hl
  clear hr hb1 hg1 hs1 hl
  unfold fr0c at HN HA
  go_enter Try.func36, Try.ntmps36
  go_wp2
  refine wp_scope_once 0 rfl ?_
  go_wp2_with fail
  refine HN.out.mono ?_
  rintro e w1 ⟨g, rfl, hR, hg, hb⟩
  have HS := Lib.hid (show RS0 w w.heap.size g w1.heap.size (b, 0) (w1.alloc (.cells #[.pointer (some ⟨g, 0, none⟩)] 113)) from by
    obtain ⟨h1, h2, h3⟩ := HA.out
    rw [h3] at hg
    have hsz := hb.size
    rw [h3] at hsz
    have hb' := (alloc1 w1 #[.pointer (some ⟨g, 0, none⟩)] 113)
    have hlt := hR.lt
    refine ⟨(h1.trans (hb.mono (by omega))).trans (hb'.1.mono (by omega)), ?_, hb'.2.1, IsRB.below hR hb'.1, Nat.le_refl _, by omega, hlt, by have := HL.out; show b.length ≤ _; omega⟩
    exact ((hb'.1.block _ (by omega)).trans (hb.block _ (by omega))).trans h2)
  clear hb
  go_wp2_with fail
  generalize w1.alloc (.cells #[.pointer (some ⟨g, 0, none⟩)] 113) = w2 at HS ⊢
  generalize w1.heap.size = br at HS ⊢
  clear hR hg
  have h1 : nN (b, 0) 1 < 9223372036854775808 := Nat.lt_trans (nN_lt _ _) (by decide)
  have hw := wrap32_nat (nN_lt (nS (nS (nS (b, 0) 1) 8) 8) 4)
  refine wp_cut (fun f => [(some 13, .func (.func 57) #[] #[.pointer (some ⟨br, 0, none⟩)]), (some 14, .int .i64 (nN (b, 0) 1 : Nat)), (some 15, .pointer (some ⟨g, 0, none⟩)), (some 16, .int .u64 (nN (nS (b, 0) 1) 8 : Nat)), (some 17, .pointer (some ⟨g, 0, none⟩)), (some 18, .int .u64 (nN (nS (nS (b, 0) 1) 8) 8 : Nat)), (some 19, .pointer (some ⟨g, 0, none⟩)), (some 20, .int .u64 (nN (nS (nS (nS (b, 0) 1) 8) 8) 4 : Nat)), (some 21, .int .u32 (nN (nS (nS (nS (b, 0) 1) 8) 8) 4 : Nat)), (some 22, .agg #[.int .i64 (nN (b, 0) 1 : Nat), .int .u64 (nN (nS (b, 0) 1) 8 : Nat), .int .u64 (nN (nS (nS (b, 0) 1) 8) 8 : Nat), .int .u32 (nN (nS (nS (nS (b, 0) 1) 8) 8) 4 : Nat), .int .u32 0, .int .i64 0, .int .i64 0, .int .i64 0, .int .i64 0, .string ⟨#[]⟩, .slice none 0 0]), (some 7, .pointer (some ⟨f, 0, none⟩))]) (fun f w' => RS w w.heap.size g br f #[.int .i64 (nN (b, 0) 1 : Nat), .int .u64 (nN (nS (b, 0) 1) 8 : Nat), .int .u64 (nN (nS (nS (b, 0) 1) 8) 8 : Nat), .int .u32 (nN (nS (nS (nS (b, 0) 1) 8) 8) 4 : Nat), .int .u32 0, .int .i64 0, .int .i64 0, .int .i64 0, .int .i64 0, .string ⟨#[]⟩, .slice none 0 0] none 0 [] (nS (nS (nS (nS (b, 0) 1) 8) 8) 4) w') ?_ ?_
  · have hb := fun w' (hk : KeepsBut [g] w2.drew w') => hk.cell (p := ⟨br, 0, none⟩) (cells1 HS.out.drew.hbr).1 (by simp; have := HS.out.n4; omega)
    have HS := Lib.hid HS.out.drew
    refine wp_region_tree (KeepsBut [g]) (KeepsBut.refl [g]) (KeepsBut.trans [g]) [11] (MTree.step 0 0 (MTree.step 1 2 (MTree.step 1 4 (MTree.step 1 6 (MTree.fork 1 10 (MTree.fork 3 10 (MTree.fork 5 10 (MTree.fork 7 10 (MTree.step 1 8 (MTree.step 0 9 (MTree.step 2 10 (MTree.step 2 11 (MTree.done))))) (MTree.step 2 7 (MTree.step 1 8 (MTree.step 0 9 (MTree.step 2 11 (MTree.done)))))) (MTree.step 2 5 (MTree.step 2 7 (MTree.step 1 8 (MTree.step 0 9 (MTree.step 2 11 (MTree.done))))))) (MTree.step 2 3 (MTree.step 2 5 (MTree.step 2 7 (MTree.step 1 8 (MTree.step 0 9 (MTree.step 2 11 (MTree.done)))))))) (MTree.step 2 1 (MTree.step 2 3 (MTree.step 2 5 (MTree.step 2 7 (MTree.step 1 8 (MTree.step 0 9 (MTree.step 2 11 (MTree.done))))))))))))) (by kernel_rfl) (by kernel_rfl) (fun d _ _ _ _ h => by cases d <;> first | exact h | cases h.1) ?_
    repeat ((first | (refine tree_free (v := ?_) rfl rfl ?_ (tree_norm (a' := ?_) ?_ ?_); rotate_left; focus (intro w'; go_simp; first | done | (with_reducible rfl))) | (refine tree_pure (v := ?_) rfl rfl ?_ (tree_norm (a' := ?_) ?_ ?_); rotate_left; focus (intro w' hR; go_simp; first | done | (with_reducible rfl))) | refine tree_freeOff rfl rfl (tree_norm (a' := ?_) ?_ ?_) | refine tree_off rfl rfl (tree_norm (a' := ?_) ?_ ?_)); rotate_left; focus (simp only [Act.put, List.getElem_toArray, List.getElem_cons_zero, List.getElem_cons_succ, List.setIfInBounds_toArray, List.set_cons_zero, List.set_cons_succ]; rfl))
    clear hb
    generalize w2.drew = wd at HS ⊢
    refine tree_fork rfl rfl ?_ ?_ <;> simp only [List.getElem_toArray, List.getElem_cons_zero, List.getElem_cons_succ]
    . skip
      go_wp2_with fail
      refine (frNumC_any HS.out.rd HS.out.hbr 1 h1).mono ?_
      rintro e w3 ⟨rfl, hp⟩
      have HS := Lib.hid (HS.out.step hp (nS_len _ _))
      have hk := hp.2.keeps (M := [g]) (fun i _ h => List.mem_singleton.2 h)
      clear hp
      go_wp2_with fail
      refine treeQ_normal hk rfl ?_
      clear hk
      refine tree_fork rfl rfl ?_ ?_ <;> simp only [List.getElem_toArray, List.getElem_cons_zero, List.getElem_cons_succ]
      . skip
        go_wp2_with fail
        refine (numS_any HS.out.rd 8).mono ?_
        rintro e w4 ⟨rfl, hp⟩
        have HS := Lib.hid (HS.out.step hp (nS_len _ _))
        have hk := hp.2.keeps (M := [g]) (fun i _ h => List.mem_singleton.2 h)
        clear hp
        go_wp2_with fail
        refine treeQ_normal hk rfl ?_
        clear hk
        refine tree_fork rfl rfl ?_ ?_ <;> simp only [List.getElem_toArray, List.getElem_cons_zero, List.getElem_cons_succ]
        . skip
          go_wp2_with fail
          refine (numS_any HS.out.rd 8).mono ?_
          rintro e w5 ⟨rfl, hp⟩
          have HS := Lib.hid (HS.out.step hp (nS_len _ _))
          have hk := hp.2.keeps (M := [g]) (fun i _ h => List.mem_singleton.2 h)
          clear hp
          go_wp2_with fail
          refine treeQ_normal hk rfl ?_
          clear hk
          refine tree_fork rfl rfl ?_ ?_ <;> simp only [List.getElem_toArray, List.getElem_cons_zero, List.getElem_cons_succ]
          . skip
            go_wp2_with fail
            refine (numS_any HS.out.rd 4).mono ?_
            rintro e w6 ⟨rfl, hp⟩
            have HS := Lib.hid (HS.out.step hp (nS_len _ _))
            have hk := hp.2.keeps (M := [g]) (fun i _ h => List.mem_singleton.2 h)
            clear hp
            go_wp2_with fail
            refine treeQ_normal hk rfl ?_
            clear hk
            repeat ((first | (refine tree_free (v := ?_) rfl rfl ?_ (tree_norm (a' := ?_) ?_ ?_); rotate_left; focus (intro w'; go_simp; first | done | (with_reducible rfl))) | (refine tree_pure (v := ?_) rfl rfl ?_ (tree_norm (a' := ?_) ?_ ?_); rotate_left; focus (intro w' hR; go_simp; first | done | (with_reducible rfl))) | refine tree_freeOff rfl rfl (tree_norm (a' := ?_) ?_ ?_) | refine tree_off rfl rfl (tree_norm (a' := ?_) ?_ ?_)); rotate_left; focus (simp only [Act.put, List.getElem_toArray, List.getElem_cons_zero, List.getElem_cons_succ, List.setIfInBounds_toArray, List.set_cons_zero, List.set_cons_succ]; rfl))
            refine tree_eff rfl ?_
            simp only [List.getElem_toArray, List.getElem_cons_zero, List.getElem_cons_succ]
            go_wp2_with fail
            have HS := Lib.hid (HS.out.frame #[.int .i64 0, .int .u64 0, .int .u64 0, .int .u32 0, .int .u32 0, .int .i64 0, .int .i64 0, .int .i64 0, .int .i64 0, .string ⟨#[]⟩, .slice none 0 0])
            have hk : KeepsBut [g] w6 (w6.alloc (.cells #[.int .i64 0, .int .u64 0, .int .u64 0, .int .u32 0, .int .u32 0, .int .i64 0, .int .i64 0, .int .i64 0, .int .i64 0, .string ⟨#[]⟩, .slice none 0 0] 58)) := KeepsBut.of_below (alloc1 _ _ _).1
            refine treeQ_normal hk rfl ?_
            clear hk
            generalize w6.alloc _ = w7 at HS ⊢
            generalize w6.heap.size = bf at HS ⊢
            obtain ⟨d0, d1, d2, d3, d4, d5, d6, d7, d8, d9, d10⟩ := cells11 HS.out.hbf
            obtain ⟨t0, t1, t2, t3, t4, t5, t6, t7, t8, t9, t10⟩ := froz11 HS.out.hbf
            refine tree_eff rfl ?_
            simp only [List.getElem_toArray, List.getElem_cons_zero, List.getElem_cons_succ]
            go_wp2_with fail
            refine treeQ_last (by decide) rfl ?_
            refine tree_done ⟨rfl, bf, ?_, HS.out.set11 _ _ _ _ _ _ _ _ _ _ _⟩
            simp only [puts, Act.put, List.setIfInBounds_toArray, List.set_cons_zero, List.set_cons_succ]
          . skip
            go_wp2_with fail
            have HS := Lib.hid (HS.out.frame #[.int .i64 0, .int .u64 0, .int .u64 0, .int .u32 0, .int .u32 0, .int .i64 0, .int .i64 0, .int .i64 0, .int .i64 0, .string ⟨#[]⟩, .slice none 0 0])
            have hk : KeepsBut [g] w5 (w5.alloc (.cells #[.int .i64 0, .int .u64 0, .int .u64 0, .int .u32 0, .int .u32 0, .int .i64 0, .int .i64 0, .int .i64 0, .int .i64 0, .string ⟨#[]⟩, .slice none 0 0] 58)) := KeepsBut.of_below (alloc1 _ _ _).1
            refine treeQ_normal hk rfl ?_
            clear hk
            generalize w5.alloc _ = w6 at HS ⊢
            generalize w5.heap.size = bf at HS ⊢
            refine tree_eff rfl ?_
            simp only [List.getElem_toArray, List.getElem_cons_zero, List.getElem_cons_succ]
            go_wp2_with fail
            refine (numS_any HS.out.rd 4).mono ?_
            rintro e w7 ⟨rfl, hp⟩
            have HS := Lib.hid (HS.out.step hp (nS_len _ _))
            have hk := hp.2.keeps (M := [g]) (fun i _ h => List.mem_singleton.2 h)
            clear hp
            go_wp2_with fail
            refine treeQ_normal hk rfl ?_
            clear hk
            repeat ((first | (refine tree_free (v := ?_) rfl rfl ?_ (tree_norm (a' := ?_) ?_ ?_); rotate_left; focus (intro w'; go_simp; first | done | (with_reducible rfl))) | (refine tree_pure (v := ?_) rfl rfl ?_ (tree_norm (a' := ?_) ?_ ?_); rotate_left; focus (intro w' hR; go_simp; first | done | (with_reducible rfl))) | refine tree_freeOff rfl rfl (tree_norm (a' := ?_) ?_ ?_) | refine tree_off rfl rfl (tree_norm (a' := ?_) ?_ ?_)); rotate_left; focus (simp only [Act.put, List.getElem_toArray, List.getElem_cons_zero, List.getElem_cons_succ, List.setIfInBounds_toArray, List.set_cons_zero, List.set_cons_succ]; rfl))
            obtain ⟨d0, d1, d2, d3, d4, d5, d6, d7, d8, d9, d10⟩ := cells11 HS.out.hbf
            obtain ⟨t0, t1, t2, t3, t4, t5, t6, t7, t8, t9, t10⟩ := froz11 HS.out.hbf
            refine tree_eff rfl ?_
            simp only [List.getElem_toArray, List.getElem_cons_zero, List.getElem_cons_succ]
            go_wp2_with fail
            refine treeQ_last (by decide) rfl ?_
            refine tree_done ⟨rfl, bf, ?_, HS.out.set11 _ _ _ _ _ _ _ _ _ _ _⟩
            simp only [puts, Act.put, List.setIfInBounds_toArray, List.set_cons_zero, List.set_cons_succ]
        . skip
          go_wp2_with fail
          have HS := Lib.hid (HS.out.frame #[.int .i64 0, .int .u64 0, .int .u64 0, .int .u32 0, .int .u32 0, .int .i64 0, .int .i64 0, .int .i64 0, .int .i64 0, .string ⟨#[]⟩, .slice none 0 0])
          have hk : KeepsBut [g] w4 (w4.alloc (.cells #[.int .i64 0, .int .u64 0, .int .u64 0, .int .u32 0, .int .u32 0, .int .i64 0, .int .i64 0, .int .i64 0, .int .i64 0, .string ⟨#[]⟩, .slice none 0 0] 58)) := KeepsBut.of_below (alloc1 _ _ _).1
          refine treeQ_normal hk rfl ?_
          clear hk
          generalize w4.alloc _ = w5 at HS ⊢
          generalize w4.heap.size = bf at HS ⊢
          refine tree_eff rfl ?_
          simp only [List.getElem_toArray, List.getElem_cons_zero, List.getElem_cons_succ]
          go_wp2_with fail
          refine (numS_any HS.out.rd 8).mono ?_
          rintro e w6 ⟨rfl, hp⟩
          have HS := Lib.hid (HS.out.step hp (nS_len _ _))
          have hk := hp.2.keeps (M := [g]) (fun i _ h => List.mem_singleton.2 h)
          clear hp
          go_wp2_with fail
          refine treeQ_normal hk rfl ?_
          clear hk
          refine tree_eff rfl ?_
          simp only [List.getElem_toArray, List.getElem_cons_zero, List.getElem_cons_succ]
          go_wp2_with fail
          refine (numS_any HS.out.rd 4).mono ?_
          rintro e w7 ⟨rfl, hp⟩
          have HS := Lib.hid (HS.out.step hp (nS_len _ _))
          have hk := hp.2.keeps (M := [g]) (fun i _ h => List.mem_singleton.2 h)
          clear hp
          go_wp2_with fail
          refine treeQ_normal hk rfl ?_
          clear hk
          repeat ((first | (refine tree_free (v := ?_) rfl rfl ?_ (tree_norm (a' := ?_) ?_ ?_); rotate_left; focus (intro w'; go_simp; first | done | (with_reducible rfl))) | (refine tree_pure (v := ?_) rfl rfl ?_ (tree_norm (a' := ?_) ?_ ?_); rotate_left; focus (intro w' hR; go_simp; first | done | (with_reducible rfl))) | refine tree_freeOff rfl rfl (tree_norm (a' := ?_) ?_ ?_) | refine tree_off rfl rfl (tree_norm (a' := ?_) ?_ ?_)); rotate_left; focus (simp only [Act.put, List.getElem_toArray, List.getElem_cons_zero, List.getElem_cons_succ, List.setIfInBounds_toArray, List.set_cons_zero, List.set_cons_succ]; rfl))
          obtain ⟨d0, d1, d2, d3, d4, d5, d6, d7, d8, d9, d10⟩ := cells11 HS.out.hbf
          obtain ⟨t0, t1, t2, t3, t4, t5, t6, t7, t8, t9, t10⟩ := froz11 HS.out.hbf
          refine tree_eff rfl ?_
          simp only [List.getElem_toArray, List.getElem_cons_zero, List.getElem_cons_succ]
          go_wp2_with fail
          refine treeQ_last (by decide) rfl ?_
          refine tree_done ⟨rfl, bf, ?_, HS.out.set11 _ _ _ _ _ _ _ _ _ _ _⟩
          simp only [puts, Act.put, List.setIfInBounds_toArray, List.set_cons_zero, List.set_cons_succ]
      . skip
        go_wp2_with fail
        have HS := Lib.hid (HS.out.frame #[.int .i64 0, .int .u64 0, .int .u64 0, .int .u32 0, .int .u32 0, .int .i64 0, .int .i64 0, .int .i64 0, .int .i64 0, .string ⟨#[]⟩, .slice none 0 0])
        have hk : KeepsBut [g] w3 (w3.alloc (.cells #[.int .i64 0, .int .u64 0, .int .u64 0, .int .u32 0, .int .u32 0, .int .i64 0, .int .i64 0, .int .i64 0, .int .i64 0, .string ⟨#[]⟩, .slice none 0 0] 58)) := KeepsBut.of_below (alloc1 _ _ _).1
        refine treeQ_normal hk rfl ?_
        clear hk
        generalize w3.alloc _ = w4 at HS ⊢
        generalize w3.heap.size = bf at HS ⊢
        refine tree_eff rfl ?_
        simp only [List.getElem_toArray, List.getElem_cons_zero, List.getElem_cons_succ]
        go_wp2_with fail
        refine (numS_any HS.out.rd 8).mono ?_
        rintro e w5 ⟨rfl, hp⟩
        have HS := Lib.hid (HS.out.step hp (nS_len _ _))
        have hk := hp.2.keeps (M := [g]) (fun i _ h => List.mem_singleton.2 h)
        clear hp
        go_wp2_with fail
        refine treeQ_normal hk rfl ?_
        clear hk
        refine tree_eff rfl ?_
        simp only [List.getElem_toArray, List.getElem_cons_zero, List.getElem_cons_succ]
        go_wp2_with fail
        refine (numS_any HS.out.rd 8).mono ?_
        rintro e w6 ⟨rfl, hp⟩
        have HS := Lib.hid (HS.out.step hp (nS_len _ _))
        have hk := hp.2.keeps (M := [g]) (fun i _ h => List.mem_singleton.2 h)
        clear hp
        go_wp2_with fail
        refine treeQ_normal hk rfl ?_
        clear hk
        refine tree_eff rfl ?_
        simp only [List.getElem_toArray, List.getElem_cons_zero, List.getElem_cons_succ]
        go_wp2_with fail
        refine (numS_any HS.out.rd 4).mono ?_
        rintro e w7 ⟨rfl, hp⟩
        have HS := Lib.hid (HS.out.step hp (nS_len _ _))
        have hk := hp.2.keeps (M := [g]) (fun i _ h => List.mem_singleton.2 h)
        clear hp
        go_wp2_with fail
        refine treeQ_normal hk rfl ?_
        clear hk
        repeat ((first | (refine tree_free (v := ?_) rfl rfl ?_ (tree_norm (a' := ?_) ?_ ?_); rotate_left; focus (intro w'; go_simp; first | done | (with_reducible rfl))) | (refine tree_pure (v := ?_) rfl rfl ?_ (tree_norm (a' := ?_) ?_ ?_); rotate_left; focus (intro w' hR; go_simp; first | done | (with_reducible rfl))) | refine tree_freeOff rfl rfl (tree_norm (a' := ?_) ?_ ?_) | refine tree_off rfl rfl (tree_norm (a' := ?_) ?_ ?_)); rotate_left; focus (simp only [Act.put, List.getElem_toArray, List.getElem_cons_zero, List.getElem_cons_succ, List.setIfInBounds_toArray, List.set_cons_zero, List.set_cons_succ]; rfl))
        obtain ⟨d0, d1, d2, d3, d4, d5, d6, d7, d8, d9, d10⟩ := cells11 HS.out.hbf
        obtain ⟨t0, t1, t2, t3, t4, t5, t6, t7, t8, t9, t10⟩ := froz11 HS.out.hbf
        refine tree_eff rfl ?_
        simp only [List.getElem_toArray, List.getElem_cons_zero, List.getElem_cons_succ]
        go_wp2_with fail
        refine treeQ_last (by decide) rfl ?_
        refine tree_done ⟨rfl, bf, ?_, HS.out.set11 _ _ _ _ _ _ _ _ _ _ _⟩
        simp only [puts, Act.put, List.setIfInBounds_toArray, List.set_cons_zero, List.set_cons_succ]
    . skip
      go_wp2_with fail
      have HS := Lib.hid (HS.out.frame #[.int .i64 0, .int .u64 0, .int .u64 0, .int .u32 0, .int .u32 0, .int .i64 0, .int .i64 0, .int .i64 0, .int .i64 0, .string ⟨#[]⟩, .slice none 0 0])
      have hk : KeepsBut [g] wd (wd.alloc (.cells #[.int .i64 0, .int .u64 0, .int .u64 0, .int .u32 0, .int .u32 0, .int .i64 0, .int .i64 0, .int .i64 0, .int .i64 0, .string ⟨#[]⟩, .slice none 0 0] 58)) := KeepsBut.of_below (alloc1 _ _ _).1
      refine treeQ_normal hk rfl ?_
      clear hk
      generalize wd.alloc _ = w3 at HS ⊢
      generalize wd.heap.size = bf at HS ⊢
      refine tree_eff rfl ?_
      simp only [List.getElem_toArray, List.getElem_cons_zero, List.getElem_cons_succ]
      go_wp2_with fail
      refine (frNumC_any HS.out.rd HS.out.hbr 1 h1).mono ?_
      rintro e w4 ⟨rfl, hp⟩
      have HS := Lib.hid (HS.out.step hp (nS_len _ _))
      have hk := hp.2.keeps (M := [g]) (fun i _ h => List.mem_singleton.2 h)
      clear hp
      go_wp2_with fail
      refine treeQ_normal hk rfl ?_
      clear hk
      refine tree_eff rfl ?_
      simp only [List.getElem_toArray, List.getElem_cons_zero, List.getElem_cons_succ]
      go_wp2_with fail
      refine (numS_any HS.out.rd 8).mono ?_
      rintro e w5 ⟨rfl, hp⟩
      have HS := Lib.hid (HS.out.step hp (nS_len _ _))
      have hk := hp.2.keeps (M := [g]) (fun i _ h => List.mem_singleton.2 h)
      clear hp
      go_wp2_with fail
      refine treeQ_normal hk rfl ?_
      clear hk
      refine tree_eff rfl ?_
      simp only [List.getElem_toArray, List.getElem_cons_zero, List.getElem_cons_succ]
      go_wp2_with fail
      refine (numS_any HS.out.rd 8).mono ?_
      rintro e w6 ⟨rfl, hp⟩
      have HS := Lib.hid (HS.out.step hp (nS_len _ _))
      have hk := hp.2.keeps (M := [g]) (fun i _ h => List.mem_singleton.2 h)
      clear hp
      go_wp2_with fail
      refine treeQ_normal hk rfl ?_
      clear hk
      refine tree_eff rfl ?_
      simp only [List.getElem_toArray, List.getElem_cons_zero, List.getElem_cons_succ]
      go_wp2_with fail
      refine (numS_any HS.out.rd 4).mono ?_
      rintro e w7 ⟨rfl, hp⟩
      have HS := Lib.hid (HS.out.step hp (nS_len _ _))
      have hk := hp.2.keeps (M := [g]) (fun i _ h => List.mem_singleton.2 h)
      clear hp
      go_wp2_with fail
      refine treeQ_normal hk rfl ?_
      clear hk
      repeat ((first | (refine tree_free (v := ?_) rfl rfl ?_ (tree_norm (a' := ?_) ?_ ?_); rotate_left; focus (intro w'; go_simp; first | done | (with_reducible rfl))) | (refine tree_pure (v := ?_) rfl rfl ?_ (tree_norm (a' := ?_) ?_ ?_); rotate_left; focus (intro w' hR; go_simp; first | done | (with_reducible rfl))) | refine tree_freeOff rfl rfl (tree_norm (a' := ?_) ?_ ?_) | refine tree_off rfl rfl (tree_norm (a' := ?_) ?_ ?_)); rotate_left; focus (simp only [Act.put, List.getElem_toArray, List.getElem_cons_zero, List.getElem_cons_succ, List.setIfInBounds_toArray, List.set_cons_zero, List.set_cons_succ]; rfl))
      obtain ⟨d0, d1, d2, d3, d4, d5, d6, d7, d8, d9, d10⟩ := cells11 HS.out.hbf
      obtain ⟨t0, t1, t2, t3, t4, t5, t6, t7, t8, t9, t10⟩ := froz11 HS.out.hbf
      refine tree_eff rfl ?_
      simp only [List.getElem_toArray, List.getElem_cons_zero, List.getElem_cons_succ]
      go_wp2_with fail
      refine treeQ_last (by decide) rfl ?_
      refine tree_done ⟨rfl, bf, ?_, HS.out.set11 _ _ _ _ _ _ _ _ _ _ _⟩
      simp only [puts, Act.put, List.setIfInBounds_toArray, List.set_cons_zero, List.set_cons_succ]
  · skip
    intro bf w3 HS
    have HS := Lib.hid HS
    simp only [puts, Act.put, List.setIfInBounds_toArray, List.set_cons_zero, List.set_cons_succ]
    have h2 : nN (nS (nS (nS (nS (b, 0) 1) 8) 8) 4) 2 < 9223372036854775808 := Nat.lt_trans (nN_lt _ _) (by decide)
    clear HN HA HL
    go_wp2_with fail
    refine (frNumC_any HS.out.rd HS.out.hbr 2 h2).mono ?_
    rintro e w4 ⟨rfl, hp⟩
    have HS := Lib.hid (HS.out.step hp (nS_len _ _))
    clear hp h2 hw
    obtain ⟨s, hs⟩ : ∃ s, nS (nS (nS (nS (nS (b, 0) 1) 8) 8) 4) 2 = s := ⟨_, rfl⟩
    obtain ⟨s1, hs1⟩ : ∃ s, nN (nS (b, 0) 1) 8 = s := ⟨_, rfl⟩
    obtain ⟨e1, he1⟩ : ∃ s, nN (nS (nS (b, 0) 1) 8) 8 = s := ⟨_, rfl⟩
    obtain ⟨q1, hq1⟩ : ∃ s, nN (nS (nS (nS (b, 0) 1) 8) 8) 4 = s := ⟨_, rfl⟩
    obtain ⟨k1, hk1⟩ : ∃ s, nN (b, 0) 1 = s := ⟨_, rfl⟩
    have HX : readF b = readB ⟨(k1 : Nat), s1, e1, q1, 0, 0, 0, 0, 0, ⟨#[]⟩, []⟩ s := by rw [← hk1, ← hs1, ← he1, ← hq1, ← hs]; rfl
    rw [hs, hs1, he1, hq1, hk1] at HS
    have HX := Lib.hid HX
    rw [hs1, he1, hq1, hk1]
    clear hs hs1 he1 hq1 hk1 h1
    obtain ⟨k, hk⟩ : ∃ k : Int, (k1 : Int) = k := ⟨_, rfl⟩
    rw [hk] at HS HX
    rw [hk]
    clear hk
    cases h7 : (k == 7) with
    | true =>
      have HX := Lib.hid (HX.out.trans (readB_7 h7))
      obtain ⟨d0, d1, d2, d3, d4, d5, d6, d7, d8, d9, d10⟩ := cells11 HS.out.hbf
      go_wp2_with fail
      clear d0 d1 d2 d3 d4 d5 d6 d7 d8 d9 d10
      apply wp_goto
      simp only [Exit.inBlock, Exit.then]
      refine jump_goto ?_
      go_wp2_with fail
      generalize s = sf at HX HS

      have HS := Lib.hid HS.out.drew
      obtain ⟨d0, d1, d2, d3, d4, d5, d6, d7, d8, d9, d10⟩ := keeps11 (M := []) HS.out.hbf (by simp)
      have bx := fun w' (hk : KeepsBut [] w4.drew w') => hk.cell (p := ⟨br, 0, none⟩) (cells1 HS.out.hbr).1 (by simp)
      have h2 := HS.out.h2
      unfold fr0c at h2
      obtain ⟨y0, y1, y2, y3, y4, y5, y6, y7, y8, y9, y10⟩ := cells11 h2
      obtain ⟨z0, z1, z2, z3, z4, z5, z6, z7, z8, z9, z10⟩ := froz11 h2
      have H2 := Lib.hid h2
      clear h2
      cases hz : ((sf.2 : Int) == 0)
      case true =>
        refine wp_region_mix3 (KeepsBut []) (KeepsBut.refl []) (KeepsBut.trans []) [9] [(1, 0), (1, 1), (2, 2), (0, 3), (0, 4), (1, 5), (2, 6), (0, 7), (0, 8), (2, 9), (0, 10)] (by kernel_rfl) (by kernel_rfl) (fun d _ _ _ _ h => by cases d <;> exact h) ?_
        generalize w4.drew = wd at HS H2 bx d0 d1 d2 d3 d4 d5 d6 d7 d8 d9 d10 y0 y1 y2 y3 y4 y5 y6 y7 y8 y9 y10 z0 z1 z2 z3 z4 z5 z6 z7 z8 z9 z10 ⊢
        repeat ((first | (refine mix3_free (v := ?_) rfl rfl ?_ (mix3_norm (a' := ?_) ?_ ?_); rotate_left; focus (intro w'; go_simp; first | done | (with_reducible rfl))) | (refine mix3_pure (v := ?_) rfl rfl ?_ (mix3_norm (a' := ?_) ?_ ?_); rotate_left; focus (intro w' hR; go_simp; first | done | (with_reducible rfl))) | refine mix3_freeOff rfl rfl (mix3_norm (a' := ?_) ?_ ?_) | refine mix3_off rfl rfl (mix3_norm (a' := ?_) ?_ ?_)); rotate_left; focus (simp only [Act.put, List.getElem_toArray, List.getElem_cons_zero, List.getElem_cons_succ, List.setIfInBounds_toArray, List.set_cons_zero, List.set_cons_succ]; rfl))
        refine mix3_eff rfl ?_
        simp only [List.getElem_toArray, List.getElem_cons_zero, List.getElem_cons_succ]
        go_wp2_with fail
        refine (why_any g sf.1 sf.2 _ (IsRB.isR HS.out.rd)).mono ?_
        rintro e w' ⟨rfl, rfl⟩
        go_wp2_with fail
        refine mixQ3_normal (KeepsBut.refl _ _) rfl ?_
        repeat ((first | (refine mix3_free (v := ?_) rfl rfl ?_ (mix3_norm (a' := ?_) ?_ ?_); rotate_left; focus (intro w'; go_simp; first | done | (with_reducible rfl))) | (refine mix3_pure (v := ?_) rfl rfl ?_ (mix3_norm (a' := ?_) ?_ ?_); rotate_left; focus (intro w' hR; go_simp; first | done | (with_reducible rfl))) | refine mix3_freeOff rfl rfl (mix3_norm (a' := ?_) ?_ ?_) | refine mix3_off rfl rfl (mix3_norm (a' := ?_) ?_ ?_)); rotate_left; focus (simp only [Act.put, List.getElem_toArray, List.getElem_cons_zero, List.getElem_cons_succ, List.setIfInBounds_toArray, List.set_cons_zero, List.set_cons_succ]; rfl))
        refine mix3_eff rfl ?_
        simp only [List.getElem_toArray, List.getElem_cons_zero, List.getElem_cons_succ]
        go_wp2_with fail
        refine (left_any g sf.1 sf.2 _ (IsRB.isR HS.out.rd)).mono ?_
        rintro e w' ⟨rfl, rfl⟩
        go_wp2_with fail
        refine mixQ3_normal (KeepsBut.refl _ _) rfl ?_
        repeat ((first | (refine mix3_free (v := ?_) rfl rfl ?_ (mix3_norm (a' := ?_) ?_ ?_); rotate_left; focus (intro w'; go_simp; first | done | (with_reducible rfl))) | (refine mix3_pure (v := ?_) rfl rfl ?_ (mix3_norm (a' := ?_) ?_ ?_); rotate_left; focus (intro w' hR; go_simp; first | done | (with_reducible rfl))) | refine mix3_freeOff rfl rfl (mix3_norm (a' := ?_) ?_ ?_) | refine mix3_off rfl rfl (mix3_norm (a' := ?_) ?_ ?_)); rotate_left; focus (simp only [Act.put, List.getElem_toArray, List.getElem_cons_zero, List.getElem_cons_succ, List.setIfInBounds_toArray, List.set_cons_zero, List.set_cons_succ]; rfl))
        clear d0 d1 d2 d3 d4 d5 d6 d7 d8 d9 d10 bx
        refine mix3_eff rfl ?_
        simp only [List.getElem_toArray, List.getElem_cons_zero, List.getElem_cons_succ]
        go_wp2_with fail
        refine mixQ3_last (by decide) rfl ?_
        repeat ((first | (refine mix3_free (v := ?_) rfl rfl ?_ (mix3_norm (a' := ?_) ?_ ?_); rotate_left; focus (intro w'; go_simp; first | done | (with_reducible rfl))) | (refine mix3_pure (v := ?_) rfl rfl ?_ (mix3_norm (a' := ?_) ?_ ?_); rotate_left; focus (intro w' hR; go_simp; first | done | (with_reducible rfl))) | refine mix3_freeOff rfl rfl (mix3_norm (a' := ?_) ?_ ?_) | refine mix3_off rfl rfl (mix3_norm (a' := ?_) ?_ ?_)); rotate_left; focus (simp only [Act.put, List.getElem_toArray, List.getElem_cons_zero, List.getElem_cons_succ, List.setIfInBounds_toArray, List.set_cons_zero, List.set_cons_succ]; rfl))
        refine mix3_done ?_
        go_wp2_with fail
        rw [Exit.noGoto_ret]
        obtain ⟨u1, u2⟩ := set11 H2.out (mk11 _ _ _ _ _ _ _ _ _ _ _) _ _ _ _ _ _ _ _ _ _ _
        refine bodyPost_ret (results_cell_tmp_row rfl _ _ w.heap.size _ _ _ _ rfl u1 Try.underlying58 rfl (by kernel_rfl)) rfl ⟨none, 0, ?_, ?_⟩
        · rw [HX.out]; unfold okS; rw [hz]; rfl
        · rw [HX.out]; exact HS.out.fin u2
      case false =>
        refine wp_region_mix3 (KeepsBut []) (KeepsBut.refl []) (KeepsBut.trans []) [9] [(1, 0), (1, 1), (2, 2), (0, 3), (0, 4), (1, 5), (2, 6), (0, 7), (0, 8), (2, 9), (0, 10)] (by kernel_rfl) (by kernel_rfl) (fun d _ _ _ _ h => by cases d <;> exact h) ?_
        generalize w4.drew = wd at HS H2 bx d0 d1 d2 d3 d4 d5 d6 d7 d8 d9 d10 y0 y1 y2 y3 y4 y5 y6 y7 y8 y9 y10 z0 z1 z2 z3 z4 z5 z6 z7 z8 z9 z10 ⊢
        repeat ((first | (refine mix3_free (v := ?_) rfl rfl ?_ (mix3_norm (a' := ?_) ?_ ?_); rotate_left; focus (intro w'; go_simp; first | done | (with_reducible rfl))) | (refine mix3_pure (v := ?_) rfl rfl ?_ (mix3_norm (a' := ?_) ?_ ?_); rotate_left; focus (intro w' hR; go_simp; first | done | (with_reducible rfl))) | refine mix3_freeOff rfl rfl (mix3_norm (a' := ?_) ?_ ?_) | refine mix3_off rfl rfl (mix3_norm (a' := ?_) ?_ ?_)); rotate_left; focus (simp only [Act.put, List.getElem_toArray, List.getElem_cons_zero, List.getElem_cons_succ, List.setIfInBounds_toArray, List.set_cons_zero, List.set_cons_succ]; rfl))
        refine mix3_eff rfl ?_
        simp only [List.getElem_toArray, List.getElem_cons_zero, List.getElem_cons_succ]
        go_wp2_with fail
        refine (why_any g sf.1 sf.2 _ (IsRB.isR HS.out.rd)).mono ?_
        rintro e w' ⟨rfl, rfl⟩
        go_wp2_with fail
        refine mixQ3_normal (KeepsBut.refl _ _) rfl ?_
        repeat ((first | (refine mix3_free (v := ?_) rfl rfl ?_ (mix3_norm (a' := ?_) ?_ ?_); rotate_left; focus (intro w'; go_simp; first | done | (with_reducible rfl))) | (refine mix3_pure (v := ?_) rfl rfl ?_ (mix3_norm (a' := ?_) ?_ ?_); rotate_left; focus (intro w' hR; go_simp; first | done | (with_reducible rfl))) | refine mix3_freeOff rfl rfl (mix3_norm (a' := ?_) ?_ ?_) | refine mix3_off rfl rfl (mix3_norm (a' := ?_) ?_ ?_)); rotate_left; focus (simp only [Act.put, List.getElem_toArray, List.getElem_cons_zero, List.getElem_cons_succ, List.setIfInBounds_toArray, List.set_cons_zero, List.set_cons_succ]; rfl))
        refine mix3_skip (KeepsBut.refl []) rfl rfl (mix3_norm (a' := ?_) ?_ ?_)
        rotate_left
        focus (simp only [Act.put, List.getElem_toArray, List.getElem_cons_zero, List.getElem_cons_succ, List.setIfInBounds_toArray, List.set_cons_zero, List.set_cons_succ]; rfl)
        repeat ((first | (refine mix3_free (v := ?_) rfl rfl ?_ (mix3_norm (a' := ?_) ?_ ?_); rotate_left; focus (intro w'; go_simp; first | done | (with_reducible rfl))) | (refine mix3_pure (v := ?_) rfl rfl ?_ (mix3_norm (a' := ?_) ?_ ?_); rotate_left; focus (intro w' hR; go_simp; first | done | (with_reducible rfl))) | refine mix3_freeOff rfl rfl (mix3_norm (a' := ?_) ?_ ?_) | refine mix3_off rfl rfl (mix3_norm (a' := ?_) ?_ ?_)); rotate_left; focus (simp only [Act.put, List.getElem_toArray, List.getElem_cons_zero, List.getElem_cons_succ, List.setIfInBounds_toArray, List.set_cons_zero, List.set_cons_succ]; rfl))
        clear d0 d1 d2 d3 d4 d5 d6 d7 d8 d9 d10 bx
        refine mix3_eff rfl ?_
        simp only [List.getElem_toArray, List.getElem_cons_zero, List.getElem_cons_succ]
        go_wp2_with fail
        refine mixQ3_last (by decide) rfl ?_
        repeat ((first | (refine mix3_free (v := ?_) rfl rfl ?_ (mix3_norm (a' := ?_) ?_ ?_); rotate_left; focus (intro w'; go_simp; first | done | (with_reducible rfl))) | (refine mix3_pure (v := ?_) rfl rfl ?_ (mix3_norm (a' := ?_) ?_ ?_); rotate_left; focus (intro w' hR; go_simp; first | done | (with_reducible rfl))) | refine mix3_freeOff rfl rfl (mix3_norm (a' := ?_) ?_ ?_) | refine mix3_off rfl rfl (mix3_norm (a' := ?_) ?_ ?_)); rotate_left; focus (simp only [Act.put, List.getElem_toArray, List.getElem_cons_zero, List.getElem_cons_succ, List.setIfInBounds_toArray, List.set_cons_zero, List.set_cons_succ]; rfl))
        refine mix3_done ?_
        go_wp2_with fail
        rw [Exit.noGoto_ret]
        obtain ⟨u1, u2⟩ := set11 H2.out (mk11 _ _ _ _ _ _ _ _ _ _ _) _ _ _ _ _ _ _ _ _ _ _
        refine bodyPost_ret (results_cell_tmp_row rfl _ _ w.heap.size _ _ _ _ rfl u1 Try.underlying58 rfl (by kernel_rfl)) rfl ⟨none, 0, ?_, ?_⟩
        · rw [HX.out]; unfold okS; rw [hz]; rfl
        · rw [HX.out]; exact HS.out.fin u2
    | false =>
      cases h1 : (k == 1) with
      | true =>
        have HX := Lib.hid (HX.out.trans (readB_1 h7 h1))
        obtain ⟨d0, d1, d2, d3, d4, d5, d6, d7, d8, d9, d10⟩ := cells11 HS.out.hbf
        have bx := (cells1 HS.out.hbr).1
        have wv := wrap32_nat (nN_lt s 4)
        go_wp2_with fail
        clear d0 d1 d2 d3 d4 d5 d6 d7 d8 d9 d10 bx
        refine (numS_any HS.out.rd 4).mono ?_
        rintro e w5 ⟨rfl, hp⟩
        have HS := Lib.hid (HS.out.step hp (nS_len _ _))
        clear hp
        obtain ⟨d0, d1, d2, d3, d4, d5, d6, d7, d8, d9, d10⟩ := cells11 HS.out.hbf
        obtain ⟨t0, t1, t2, t3, t4, t5, t6, t7, t8, t9, t10⟩ := froz11 HS.out.hbf
        go_wp2_with fail
        have HS := Lib.hid (HS.out.set 4 (.int .u32 (nN s 4 : Nat)))
        simp only [List.setIfInBounds_toArray, List.set_cons_zero, List.set_cons_succ] at HS
        clear d0 d1 d2 d3 d4 d5 d6 d7 d8 d9 d10 t0 t1 t2 t3 t4 t5 t6 t7 t8 t9 t10
        generalize w5.setCell ⟨bf, 4, none⟩ _ = w6 at HS ⊢
        clear wv
        go_wp2_with fail
        refine (frNumC_any HS.out.rd HS.out.hbr 2 (Nat.lt_trans (nN_lt _ _) (by decide))).mono ?_
        rintro e w7 ⟨rfl, hp⟩
        have HS := Lib.hid (HS.out.step hp (nS_len _ _))
        clear hp
        obtain ⟨d0, d1, d2, d3, d4, d5, d6, d7, d8, d9, d10⟩ := cells11 HS.out.hbf
        obtain ⟨t0, t1, t2, t3, t4, t5, t6, t7, t8, t9, t10⟩ := froz11 HS.out.hbf
        go_wp2_with fail
        have HS := Lib.hid (HS.out.set 5 (.int .i64 (nN (nS s 4) 2 : Nat)))
        simp only [List.setIfInBounds_toArray, List.set_cons_zero, List.set_cons_succ] at HS
        clear d0 d1 d2 d3 d4 d5 d6 d7 d8 d9 d10 t0 t1 t2 t3 t4 t5 t6 t7 t8 t9 t10
        generalize w7.setCell ⟨bf, 5, none⟩ _ = w8 at HS ⊢
        go_wp2_with fail
        refine (frNumC_any HS.out.rd HS.out.hbr 1 (Nat.lt_trans (nN_lt _ _) (by decide))).mono ?_
        rintro e w9 ⟨rfl, hp⟩
        have HS := Lib.hid (HS.out.step hp (nS_len _ _))
        clear hp
        obtain ⟨d0, d1, d2, d3, d4, d5, d6, d7, d8, d9, d10⟩ := cells11 HS.out.hbf
        obtain ⟨t0, t1, t2, t3, t4, t5, t6, t7, t8, t9, t10⟩ := froz11 HS.out.hbf
        go_wp2_with fail
        have HS := Lib.hid (HS.out.set 6 (.int .i64 (nN (nS (nS s 4) 2) 1 : Nat)))
        simp only [List.setIfInBounds_toArray, List.set_cons_zero, List.set_cons_succ] at HS
        clear d0 d1 d2 d3 d4 d5 d6 d7 d8 d9 d10 t0 t1 t2 t3 t4 t5 t6 t7 t8 t9 t10
        generalize w9.setCell ⟨bf, 6, none⟩ _ = w10 at HS ⊢
        go_wp2_with fail
        refine (frTextC_any HS.out.rd HS.out.len HS.out.hbr 32).mono ?_
        rintro e w11 ⟨rfl, hp⟩
        have HS := Lib.hid (HS.out.step hp (tS_len _ _))
        clear hp
        obtain ⟨d0, d1, d2, d3, d4, d5, d6, d7, d8, d9, d10⟩ := cells11 HS.out.hbf
        obtain ⟨t0, t1, t2, t3, t4, t5, t6, t7, t8, t9, t10⟩ := froz11 HS.out.hbf
        go_wp2_with fail
        have HS := Lib.hid (HS.out.set 9 (.string (tN (nS (nS (nS s 4) 2) 1) 32)))
        simp only [List.setIfInBounds_toArray, List.set_cons_zero, List.set_cons_succ] at HS
        clear d0 d1 d2 d3 d4 d5 d6 d7 d8 d9 d10 t0 t1 t2 t3 t4 t5 t6 t7 t8 t9 t10
        generalize w11.setCell ⟨bf, 9, none⟩ _ = w12 at HS ⊢
        go_wp2_with fail
        apply wp_goto
        simp only [Exit.inBlock, Exit.then]
        refine jump_goto ?_
        go_wp2_with fail
        generalize tS (nS (nS (nS s 4) 2) 1) 32 = sf at HX HS

        have HS := Lib.hid HS.out.drew
        obtain ⟨d0, d1, d2, d3, d4, d5, d6, d7, d8, d9, d10⟩ := keeps11 (M := []) HS.out.hbf (by simp)
        have bx := fun w' (hk : KeepsBut [] w12.drew w') => hk.cell (p := ⟨br, 0, none⟩) (cells1 HS.out.hbr).1 (by simp)
        have h2 := HS.out.h2
        unfold fr0c at h2
        obtain ⟨y0, y1, y2, y3, y4, y5, y6, y7, y8, y9, y10⟩ := cells11 h2
        obtain ⟨z0, z1, z2, z3, z4, z5, z6, z7, z8, z9, z10⟩ := froz11 h2
        have H2 := Lib.hid h2
        clear h2
        cases hz : ((sf.2 : Int) == 0)
        case true =>
          refine wp_region_mix3 (KeepsBut []) (KeepsBut.refl []) (KeepsBut.trans []) [9] [(1, 0), (1, 1), (2, 2), (0, 3), (0, 4), (1, 5), (2, 6), (0, 7), (0, 8), (2, 9), (0, 10)] (by kernel_rfl) (by kernel_rfl) (fun d _ _ _ _ h => by cases d <;> exact h) ?_
          generalize w12.drew = wd at HS H2 bx d0 d1 d2 d3 d4 d5 d6 d7 d8 d9 d10 y0 y1 y2 y3 y4 y5 y6 y7 y8 y9 y10 z0 z1 z2 z3 z4 z5 z6 z7 z8 z9 z10 ⊢
          repeat ((first | (refine mix3_free (v := ?_) rfl rfl ?_ (mix3_norm (a' := ?_) ?_ ?_); rotate_left; focus (intro w'; go_simp; first | done | (with_reducible rfl))) | (refine mix3_pure (v := ?_) rfl rfl ?_ (mix3_norm (a' := ?_) ?_ ?_); rotate_left; focus (intro w' hR; go_simp; first | done | (with_reducible rfl))) | refine mix3_freeOff rfl rfl (mix3_norm (a' := ?_) ?_ ?_) | refine mix3_off rfl rfl (mix3_norm (a' := ?_) ?_ ?_)); rotate_left; focus (simp only [Act.put, List.getElem_toArray, List.getElem_cons_zero, List.getElem_cons_succ, List.setIfInBounds_toArray, List.set_cons_zero, List.set_cons_succ]; rfl))
          refine mix3_eff rfl ?_
          simp only [List.getElem_toArray, List.getElem_cons_zero, List.getElem_cons_succ]
          go_wp2_with fail
          refine (why_any g sf.1 sf.2 _ (IsRB.isR HS.out.rd)).mono ?_
          rintro e w' ⟨rfl, rfl⟩
          go_wp2_with fail
          refine mixQ3_normal (KeepsBut.refl _ _) rfl ?_
          repeat ((first | (refine mix3_free (v := ?_) rfl rfl ?_ (mix3_norm (a' := ?_) ?_ ?_); rotate_left; focus (intro w'; go_simp; first | done | (with_reducible rfl))) | (refine mix3_pure (v := ?_) rfl rfl ?_ (mix3_norm (a' := ?_) ?_ ?_); rotate_left; focus (intro w' hR; go_simp; first | done | (with_reducible rfl))) | refine mix3_freeOff rfl rfl (mix3_norm (a' := ?_) ?_ ?_) | refine mix3_off rfl rfl (mix3_norm (a' := ?_) ?_ ?_)); rotate_left; focus (simp only [Act.put, List.getElem_toArray, List.getElem_cons_zero, List.getElem_cons_succ, List.setIfInBounds_toArray, List.set_cons_zero, List.set_cons_succ]; rfl))
          refine mix3_eff rfl ?_
          simp only [List.getElem_toArray, List.getElem_cons_zero, List.getElem_cons_succ]
          go_wp2_with fail
          refine (left_any g sf.1 sf.2 _ (IsRB.isR HS.out.rd)).mono ?_
          rintro e w' ⟨rfl, rfl⟩
          go_wp2_with fail
          refine mixQ3_normal (KeepsBut.refl _ _) rfl ?_
          repeat ((first | (refine mix3_free (v := ?_) rfl rfl ?_ (mix3_norm (a' := ?_) ?_ ?_); rotate_left; focus (intro w'; go_simp; first | done | (with_reducible rfl))) | (refine mix3_pure (v := ?_) rfl rfl ?_ (mix3_norm (a' := ?_) ?_ ?_); rotate_left; focus (intro w' hR; go_simp; first | done | (with_reducible rfl))) | refine mix3_freeOff rfl rfl (mix3_norm (a' := ?_) ?_ ?_) | refine mix3_off rfl rfl (mix3_norm (a' := ?_) ?_ ?_)); rotate_left; focus (simp only [Act.put, List.getElem_toArray, List.getElem_cons_zero, List.getElem_cons_succ, List.setIfInBounds_toArray, List.set_cons_zero, List.set_cons_succ]; rfl))
          clear d0 d1 d2 d3 d4 d5 d6 d7 d8 d9 d10 bx
          refine mix3_eff rfl ?_
          simp only [List.getElem_toArray, List.getElem_cons_zero, List.getElem_cons_succ]
          go_wp2_with fail
          refine mixQ3_last (by decide) rfl ?_
          repeat ((first | (refine mix3_free (v := ?_) rfl rfl ?_ (mix3_norm (a' := ?_) ?_ ?_); rotate_left; focus (intro w'; go_simp; first | done | (with_reducible rfl))) | (refine mix3_pure (v := ?_) rfl rfl ?_ (mix3_norm (a' := ?_) ?_ ?_); rotate_left; focus (intro w' hR; go_simp; first | done | (with_reducible rfl))) | refine mix3_freeOff rfl rfl (mix3_norm (a' := ?_) ?_ ?_) | refine mix3_off rfl rfl (mix3_norm (a' := ?_) ?_ ?_)); rotate_left; focus (simp only [Act.put, List.getElem_toArray, List.getElem_cons_zero, List.getElem_cons_succ, List.setIfInBounds_toArray, List.set_cons_zero, List.set_cons_succ]; rfl))
          refine mix3_done ?_
          go_wp2_with fail
          rw [Exit.noGoto_ret]
          obtain ⟨u1, u2⟩ := set11 H2.out (mk11 _ _ _ _ _ _ _ _ _ _ _) _ _ _ _ _ _ _ _ _ _ _
          refine bodyPost_ret (results_cell_tmp_row rfl _ _ w.heap.size _ _ _ _ rfl u1 Try.underlying58 rfl (by kernel_rfl)) rfl ⟨none, 0, ?_, ?_⟩
          · rw [HX.out]; unfold okS; rw [hz]; rfl
          · rw [HX.out]; exact HS.out.fin u2
        case false =>
          refine wp_region_mix3 (KeepsBut []) (KeepsBut.refl []) (KeepsBut.trans []) [9] [(1, 0), (1, 1), (2, 2), (0, 3), (0, 4), (1, 5), (2, 6), (0, 7), (0, 8), (2, 9), (0, 10)] (by kernel_rfl) (by kernel_rfl) (fun d _ _ _ _ h => by cases d <;> exact h) ?_
          generalize w12.drew = wd at HS H2 bx d0 d1 d2 d3 d4 d5 d6 d7 d8 d9 d10 y0 y1 y2 y3 y4 y5 y6 y7 y8 y9 y10 z0 z1 z2 z3 z4 z5 z6 z7 z8 z9 z10 ⊢
          repeat ((first | (refine mix3_free (v := ?_) rfl rfl ?_ (mix3_norm (a' := ?_) ?_ ?_); rotate_left; focus (intro w'; go_simp; first | done | (with_reducible rfl))) | (refine mix3_pure (v := ?_) rfl rfl ?_ (mix3_norm (a' := ?_) ?_ ?_); rotate_left; focus (intro w' hR; go_simp; first | done | (with_reducible rfl))) | refine mix3_freeOff rfl rfl (mix3_norm (a' := ?_) ?_ ?_) | refine mix3_off rfl rfl (mix3_norm (a' := ?_) ?_ ?_)); rotate_left; focus (simp only [Act.put, List.getElem_toArray, List.getElem_cons_zero, List.getElem_cons_succ, List.setIfInBounds_toArray, List.set_cons_zero, List.set_cons_succ]; rfl))
          refine mix3_eff rfl ?_
          simp only [List.getElem_toArray, List.getElem_cons_zero, List.getElem_cons_succ]
          go_wp2_with fail
          refine (why_any g sf.1 sf.2 _ (IsRB.isR HS.out.rd)).mono ?_
          rintro e w' ⟨rfl, rfl⟩
          go_wp2_with fail
          refine mixQ3_normal (KeepsBut.refl _ _) rfl ?_
          repeat ((first | (refine mix3_free (v := ?_) rfl rfl ?_ (mix3_norm (a' := ?_) ?_ ?_); rotate_left; focus (intro w'; go_simp; first | done | (with_reducible rfl))) | (refine mix3_pure (v := ?_) rfl rfl ?_ (mix3_norm (a' := ?_) ?_ ?_); rotate_left; focus (intro w' hR; go_simp; first | done | (with_reducible rfl))) | refine mix3_freeOff rfl rfl (mix3_norm (a' := ?_) ?_ ?_) | refine mix3_off rfl rfl (mix3_norm (a' := ?_) ?_ ?_)); rotate_left; focus (simp only [Act.put, List.getElem_toArray, List.getElem_cons_zero, List.getElem_cons_succ, List.setIfInBounds_toArray, List.set_cons_zero, List.set_cons_succ]; rfl))
          refine mix3_skip (KeepsBut.refl []) rfl rfl (mix3_norm (a' := ?_) ?_ ?_)
          rotate_left
          focus (simp only [Act.put, List.getElem_toArray, List.getElem_cons_zero, List.getElem_cons_succ, List.setIfInBounds_toArray, List.set_cons_zero, List.set_cons_succ]; rfl)
          repeat ((first | (refine mix3_free (v := ?_) rfl rfl ?_ (mix3_norm (a' := ?_) ?_ ?_); rotate_left; focus (intro w'; go_simp; first | done | (with_reducible rfl))) | (refine mix3_pure (v := ?_) rfl rfl ?_ (mix3_norm (a' := ?_) ?_ ?_); rotate_left; focus (intro w' hR; go_simp; first | done | (with_reducible rfl))) | refine mix3_freeOff rfl rfl (mix3_norm (a' := ?_) ?_ ?_) | refine mix3_off rfl rfl (mix3_norm (a' := ?_) ?_ ?_)); rotate_left; focus (simp only [Act.put, List.getElem_toArray, List.getElem_cons_zero, List.getElem_cons_succ, List.setIfInBounds_toArray, List.set_cons_zero, List.set_cons_succ]; rfl))
          clear d0 d1 d2 d3 d4 d5 d6 d7 d8 d9 d10 bx
          refine mix3_eff rfl ?_
          simp only [List.getElem_toArray, List.getElem_cons_zero, List.getElem_cons_succ]
          go_wp2_with fail
          refine mixQ3_last (by decide) rfl ?_
          repeat ((first | (refine mix3_free (v := ?_) rfl rfl ?_ (mix3_norm (a' := ?_) ?_ ?_); rotate_left; focus (intro w'; go_simp; first | done | (with_reducible rfl))) | (refine mix3_pure (v := ?_) rfl rfl ?_ (mix3_norm (a' := ?_) ?_ ?_); rotate_left; focus (intro w' hR; go_simp; first | done | (with_reducible rfl))) | refine mix3_freeOff rfl rfl (mix3_norm (a' := ?_) ?_ ?_) | refine mix3_off rfl rfl (mix3_norm (a' := ?_) ?_ ?_)); rotate_left; focus (simp only [Act.put, List.getElem_toArray, List.getElem_cons_zero, List.getElem_cons_succ, List.setIfInBounds_toArray, List.set_cons_zero, List.set_cons_succ]; rfl))
          refine mix3_done ?_
          go_wp2_with fail
          rw [Exit.noGoto_ret]
          obtain ⟨u1, u2⟩ := set11 H2.out (mk11 _ _ _ _ _ _ _ _ _ _ _) _ _ _ _ _ _ _ _ _ _ _
          refine bodyPost_ret (results_cell_tmp_row rfl _ _ w.heap.size _ _ _ _ rfl u1 Try.underlying58 rfl (by kernel_rfl)) rfl ⟨none, 0, ?_, ?_⟩
          · rw [HX.out]; unfold okS; rw [hz]; rfl
          · rw [HX.out]; exact HS.out.fin u2
      | false =>
        cases h2 : (k == 2) with
        | true =>
          have HX := Lib.hid (HX.out.trans (readB_2 h7 h1 h2))
          obtain ⟨d0, d1, d2, d3, d4, d5, d6, d7, d8, d9, d10⟩ := cells11 HS.out.hbf
          go_wp2_with fail
          clear d0 d1 d2 d3 d4 d5 d6 d7 d8 d9 d10
          refine (frNumC_any HS.out.rd HS.out.hbr 1 (Nat.lt_trans (nN_lt _ _) (by decide))).mono ?_
          rintro e w5 ⟨rfl, hp⟩
          have HS := Lib.hid (HS.out.step hp (nS_len _ _))
          clear hp
          obtain ⟨d0, d1, d2, d3, d4, d5, d6, d7, d8, d9, d10⟩ := cells11 HS.out.hbf
          obtain ⟨t0, t1, t2, t3, t4, t5, t6, t7, t8, t9, t10⟩ := froz11 HS.out.hbf
          go_wp2_with fail
          have HS := Lib.hid (HS.out.set 8 (.int .i64 (nN s 1 : Nat)))
          simp only [List.setIfInBounds_toArray, List.set_cons_zero, List.set_cons_succ] at HS
          clear d0 d1 d2 d3 d4 d5 d6 d7 d8 d9 d10 t0 t1 t2 t3 t4 t5 t6 t7 t8 t9 t10
          generalize w5.setCell ⟨bf, 8, none⟩ _ = w6 at HS ⊢
          go_wp2_with fail
          apply wp_goto
          simp only [Exit.inBlock, Exit.then]
          refine jump_goto ?_
          go_wp2_with fail
          generalize nS s 1 = sf at HX HS

          have HS := Lib.hid HS.out.drew
          obtain ⟨d0, d1, d2, d3, d4, d5, d6, d7, d8, d9, d10⟩ := keeps11 (M := []) HS.out.hbf (by simp)
          have bx := fun w' (hk : KeepsBut [] w6.drew w') => hk.cell (p := ⟨br, 0, none⟩) (cells1 HS.out.hbr).1 (by simp)
          have h2 := HS.out.h2
          unfold fr0c at h2
          obtain ⟨y0, y1, y2, y3, y4, y5, y6, y7, y8, y9, y10⟩ := cells11 h2
          obtain ⟨z0, z1, z2, z3, z4, z5, z6, z7, z8, z9, z10⟩ := froz11 h2
          have H2 := Lib.hid h2
          clear h2
          cases hz : ((sf.2 : Int) == 0)
          case true =>
            refine wp_region_mix3 (KeepsBut []) (KeepsBut.refl []) (KeepsBut.trans []) [9] [(1, 0), (1, 1), (2, 2), (0, 3), (0, 4), (1, 5), (2, 6), (0, 7), (0, 8), (2, 9), (0, 10)] (by kernel_rfl) (by kernel_rfl) (fun d _ _ _ _ h => by cases d <;> exact h) ?_
            generalize w6.drew = wd at HS H2 bx d0 d1 d2 d3 d4 d5 d6 d7 d8 d9 d10 y0 y1 y2 y3 y4 y5 y6 y7 y8 y9 y10 z0 z1 z2 z3 z4 z5 z6 z7 z8 z9 z10 ⊢
            repeat ((first | (refine mix3_free (v := ?_) rfl rfl ?_ (mix3_norm (a' := ?_) ?_ ?_); rotate_left; focus (intro w'; go_simp; first | done | (with_reducible rfl))) | (refine mix3_pure (v := ?_) rfl rfl ?_ (mix3_norm (a' := ?_) ?_ ?_); rotate_left; focus (intro w' hR; go_simp; first | done | (with_reducible rfl))) | refine mix3_freeOff rfl rfl (mix3_norm (a' := ?_) ?_ ?_) | refine mix3_off rfl rfl (mix3_norm (a' := ?_) ?_ ?_)); rotate_left; focus (simp only [Act.put, List.getElem_toArray, List.getElem_cons_zero, List.getElem_cons_succ, List.setIfInBounds_toArray, List.set_cons_zero, List.set_cons_succ]; rfl))
            refine mix3_eff rfl ?_
            simp only [List.getElem_toArray, List.getElem_cons_zero, List.getElem_cons_succ]
            go_wp2_with fail
            refine (why_any g sf.1 sf.2 _ (IsRB.isR HS.out.rd)).mono ?_
            rintro e w' ⟨rfl, rfl⟩
            go_wp2_with fail
            refine mixQ3_normal (KeepsBut.refl _ _) rfl ?_
            repeat ((first | (refine mix3_free (v := ?_) rfl rfl ?_ (mix3_norm (a' := ?_) ?_ ?_); rotate_left; focus (intro w'; go_simp; first | done | (with_reducible rfl))) | (refine mix3_pure (v := ?_) rfl rfl ?_ (mix3_norm (a' := ?_) ?_ ?_); rotate_left; focus (intro w' hR; go_simp; first | done | (with_reducible rfl))) | refine mix3_freeOff rfl rfl (mix3_norm (a' := ?_) ?_ ?_) | refine mix3_off rfl rfl (mix3_norm (a' := ?_) ?_ ?_)); rotate_left; focus (simp only [Act.put, List.getElem_toArray, List.getElem_cons_zero, List.getElem_cons_succ, List.setIfInBounds_toArray, List.set_cons_zero, List.set_cons_succ]; rfl))
            refine mix3_eff rfl ?_
            simp only [List.getElem_toArray, List.getElem_cons_zero, List.getElem_cons_succ]
            go_wp2_with fail
            refine (left_any g sf.1 sf.2 _ (IsRB.isR HS.out.rd)).mono ?_
            rintro e w' ⟨rfl, rfl⟩
            go_wp2_with fail
            refine mixQ3_normal (KeepsBut.refl _ _) rfl ?_
            repeat ((first | (refine mix3_free (v := ?_) rfl rfl ?_ (mix3_norm (a' := ?_) ?_ ?_); rotate_left; focus (intro w'; go_simp; first | done | (with_reducible rfl))) | (refine mix3_pure (v := ?_) rfl rfl ?_ (mix3_norm (a' := ?_) ?_ ?_); rotate_left; focus (intro w' hR; go_simp; first | done | (with_reducible rfl))) | refine mix3_freeOff rfl rfl (mix3_norm (a' := ?_) ?_ ?_) | refine mix3_off rfl rfl (mix3_norm (a' := ?_) ?_ ?_)); rotate_left; focus (simp only [Act.put, List.getElem_toArray, List.getElem_cons_zero, List.getElem_cons_succ, List.setIfInBounds_toArray, List.set_cons_zero, List.set_cons_succ]; rfl))
            clear d0 d1 d2 d3 d4 d5 d6 d7 d8 d9 d10 bx
            refine mix3_eff rfl ?_
            simp only [List.getElem_toArray, List.getElem_cons_zero, List.getElem_cons_succ]
            go_wp2_with fail
            refine mixQ3_last (by decide) rfl ?_
            repeat ((first | (refine mix3_free (v := ?_) rfl rfl ?_ (mix3_norm (a' := ?_) ?_ ?_); rotate_left; focus (intro w'; go_simp; first | done | (with_reducible rfl))) | (refine mix3_pure (v := ?_) rfl rfl ?_ (mix3_norm (a' := ?_) ?_ ?_); rotate_left; focus (intro w' hR; go_simp; first | done | (with_reducible rfl))) | refine mix3_freeOff rfl rfl (mix3_norm (a' := ?_) ?_ ?_) | refine mix3_off rfl rfl (mix3_norm (a' := ?_) ?_ ?_)); rotate_left; focus (simp only [Act.put, List.getElem_toArray, List.getElem_cons_zero, List.getElem_cons_succ, List.setIfInBounds_toArray, List.set_cons_zero, List.set_cons_succ]; rfl))
            refine mix3_done ?_
            go_wp2_with fail
            rw [Exit.noGoto_ret]
            obtain ⟨u1, u2⟩ := set11 H2.out (mk11 _ _ _ _ _ _ _ _ _ _ _) _ _ _ _ _ _ _ _ _ _ _
            refine bodyPost_ret (results_cell_tmp_row rfl _ _ w.heap.size _ _ _ _ rfl u1 Try.underlying58 rfl (by kernel_rfl)) rfl ⟨none, 0, ?_, ?_⟩
            · rw [HX.out]; unfold okS; rw [hz]; rfl
            · rw [HX.out]; exact HS.out.fin u2
          case false =>
            refine wp_region_mix3 (KeepsBut []) (KeepsBut.refl []) (KeepsBut.trans []) [9] [(1, 0), (1, 1), (2, 2), (0, 3), (0, 4), (1, 5), (2, 6), (0, 7), (0, 8), (2, 9), (0, 10)] (by kernel_rfl) (by kernel_rfl) (fun d _ _ _ _ h => by cases d <;> exact h) ?_
            generalize w6.drew = wd at HS H2 bx d0 d1 d2 d3 d4 d5 d6 d7 d8 d9 d10 y0 y1 y2 y3 y4 y5 y6 y7 y8 y9 y10 z0 z1 z2 z3 z4 z5 z6 z7 z8 z9 z10 ⊢
            repeat ((first | (refine mix3_free (v := ?_) rfl rfl ?_ (mix3_norm (a' := ?_) ?_ ?_); rotate_left; focus (intro w'; go_simp; first | done | (with_reducible rfl))) | (refine mix3_pure (v := ?_) rfl rfl ?_ (mix3_norm (a' := ?_) ?_ ?_); rotate_left; focus (intro w' hR; go_simp; first | done | (with_reducible rfl))) | refine mix3_freeOff rfl rfl (mix3_norm (a' := ?_) ?_ ?_) | refine mix3_off rfl rfl (mix3_norm (a' := ?_) ?_ ?_)); rotate_left; focus (simp only [Act.put, List.getElem_toArray, List.getElem_cons_zero, List.getElem_cons_succ, List.setIfInBounds_toArray, List.set_cons_zero, List.set_cons_succ]; rfl))
            refine mix3_eff rfl ?_
            simp only [List.getElem_toArray, List.getElem_cons_zero, List.getElem_cons_succ]
            go_wp2_with fail
            refine (why_any g sf.1 sf.2 _ (IsRB.isR HS.out.rd)).mono ?_
            rintro e w' ⟨rfl, rfl⟩
            go_wp2_with fail
            refine mixQ3_normal (KeepsBut.refl _ _) rfl ?_
            repeat ((first | (refine mix3_free (v := ?_) rfl rfl ?_ (mix3_norm (a' := ?_) ?_ ?_); rotate_left; focus (intro w'; go_simp; first | done | (with_reducible rfl))) | (refine mix3_pure (v := ?_) rfl rfl ?_ (mix3_norm (a' := ?_) ?_ ?_); rotate_left; focus (intro w' hR; go_simp; first | done | (with_reducible rfl))) | refine mix3_freeOff rfl rfl (mix3_norm (a' := ?_) ?_ ?_) | refine mix3_off rfl rfl (mix3_norm (a' := ?_) ?_ ?_)); rotate_left; focus (simp only [Act.put, List.getElem_toArray, List.getElem_cons_zero, List.getElem_cons_succ, List.setIfInBounds_toArray, List.set_cons_zero, List.set_cons_succ]; rfl))
            refine mix3_skip (KeepsBut.refl []) rfl rfl (mix3_norm (a' := ?_) ?_ ?_)
            rotate_left
            focus (simp only [Act.put, List.getElem_toArray, List.getElem_cons_zero, List.getElem_cons_succ, List.setIfInBounds_toArray, List.set_cons_zero, List.set_cons_succ]; rfl)
            repeat ((first | (refine mix3_free (v := ?_) rfl rfl ?_ (mix3_norm (a' := ?_) ?_ ?_); rotate_left; focus (intro w'; go_simp; first | done | (with_reducible rfl))) | (refine mix3_pure (v := ?_) rfl rfl ?_ (mix3_norm (a' := ?_) ?_ ?_); rotate_left; focus (intro w' hR; go_simp; first | done | (with_reducible rfl))) | refine mix3_freeOff rfl rfl (mix3_norm (a' := ?_) ?_ ?_) | refine mix3_off rfl rfl (mix3_norm (a' := ?_) ?_ ?_)); rotate_left; focus (simp only [Act.put, List.getElem_toArray, List.getElem_cons_zero, List.getElem_cons_succ, List.setIfInBounds_toArray, List.set_cons_zero, List.set_cons_succ]; rfl))
            clear d0 d1 d2 d3 d4 d5 d6 d7 d8 d9 d10 bx
            refine mix3_eff rfl ?_
            simp only [List.getElem_toArray, List.getElem_cons_zero, List.getElem_cons_succ]
            go_wp2_with fail
            refine mixQ3_last (by decide) rfl ?_
            repeat ((first | (refine mix3_free (v := ?_) rfl rfl ?_ (mix3_norm (a' := ?_) ?_ ?_); rotate_left; focus (intro w'; go_simp; first | done | (with_reducible rfl))) | (refine mix3_pure (v := ?_) rfl rfl ?_ (mix3_norm (a' := ?_) ?_ ?_); rotate_left; focus (intro w' hR; go_simp; first | done | (with_reducible rfl))) | refine mix3_freeOff rfl rfl (mix3_norm (a' := ?_) ?_ ?_) | refine mix3_off rfl rfl (mix3_norm (a' := ?_) ?_ ?_)); rotate_left; focus (simp only [Act.put, List.getElem_toArray, List.getElem_cons_zero, List.getElem_cons_succ, List.setIfInBounds_toArray, List.set_cons_zero, List.set_cons_succ]; rfl))
            refine mix3_done ?_
            go_wp2_with fail
            rw [Exit.noGoto_ret]
            obtain ⟨u1, u2⟩ := set11 H2.out (mk11 _ _ _ _ _ _ _ _ _ _ _) _ _ _ _ _ _ _ _ _ _ _
            refine bodyPost_ret (results_cell_tmp_row rfl _ _ w.heap.size _ _ _ _ rfl u1 Try.underlying58 rfl (by kernel_rfl)) rfl ⟨none, 0, ?_, ?_⟩
            · rw [HX.out]; unfold okS; rw [hz]; rfl
            · rw [HX.out]; exact HS.out.fin u2
        | false =>
          cases h4 : (k == 4) with
          | true =>
            have HX := Lib.hid (HX.out.trans (readB_4 h7 h1 h2 h4))
            obtain ⟨d0, d1, d2, d3, d4, d5, d6, d7, d8, d9, d10⟩ := cells11 HS.out.hbf
            go_wp2_with fail
            clear d0 d1 d2 d3 d4 d5 d6 d7 d8 d9 d10
            refine (frNumC_any HS.out.rd HS.out.hbr 2 (Nat.lt_trans (nN_lt _ _) (by decide))).mono ?_
            rintro e w5 ⟨rfl, hp⟩
            have HS := Lib.hid (HS.out.step hp (nS_len _ _))
            clear hp
            obtain ⟨d0, d1, d2, d3, d4, d5, d6, d7, d8, d9, d10⟩ := cells11 HS.out.hbf
            obtain ⟨t0, t1, t2, t3, t4, t5, t6, t7, t8, t9, t10⟩ := froz11 HS.out.hbf
            go_wp2_with fail
            have HS := Lib.hid (HS.out.set 7 (.int .i64 (nN s 2 : Nat)))
            simp only [List.setIfInBounds_toArray, List.set_cons_zero, List.set_cons_succ] at HS
            clear d0 d1 d2 d3 d4 d5 d6 d7 d8 d9 d10 t0 t1 t2 t3 t4 t5 t6 t7 t8 t9 t10
            generalize w5.setCell ⟨bf, 7, none⟩ _ = w6 at HS ⊢
            go_wp2_with fail
            refine (frNumC_any HS.out.rd HS.out.hbr 1 (Nat.lt_trans (nN_lt _ _) (by decide))).mono ?_
            rintro e w7 ⟨rfl, hp⟩
            have HS := Lib.hid (HS.out.step hp (nS_len _ _))
            clear hp
            have hm : nN (nS s 2) 1 < 256 := nN_lt _ _
            go_wp2_with fail
            generalize nN (nS s 2) 1 = m at HX hm ⊢
            generalize nS (nS s 2) 1 = sl at HX HS
            go_loopw [64] (fun i wr => ∃ (j : Nat) (A : Option Addr) (c : Nat), j ≤ m ∧ i = .int .i64 j ∧ Hid (RS w w.heap.size g br bf #[.int .i64 k, .int .u64 (s1 : Nat), .int .u64 (e1 : Nat), .int .u32 (q1 : Nat), .int .u32 0, .int .i64 0, .int .i64 0, .int .i64 (nN s 2 : Nat), .int .i64 0, .string ⟨#[]⟩, .slice A (tList sl j).1.length c] A c (tList sl j).1 (tList sl j).2 wr)) (fun i _ => m - (intOf i).toNat)
            case atStart => exact ⟨0, none, 0, Nat.zero_le _, rfl, by rw [tList_zero]; exact HS⟩
            case round =>
              obtain ⟨j, A, c, hj, rfl, HS⟩ := hrel
              by_cases hlt : j < m
              · go_wp2_with fail
                obtain ⟨L, hL⟩ : ∃ L, (tList sl j).1 = L := ⟨_, rfl⟩
                obtain ⟨sj, hsj⟩ : ∃ sj, (tList sl j).2 = sj := ⟨_, rfl⟩
                have HT := Lib.hid (show (tList sl (j + 1)).1 = L ++ [tN sj 32] ∧ (tList sl (j + 1)).2 = tS sj 32 by rw [tList_succ, hL, hsj]; exact ⟨rfl, rfl⟩)
                have HLn := Lib.hid (show L.length = j by rw [← hL, tList_len])
                rw [hL, hsj] at HS
                clear hL hsj
                have HS := Lib.hid HS.out.drew
                have d10 := (keeps11 (M := [g]) HS.out.hbf (by simp; have := HS.out.n4; have := HS.out.n5; omega)).2.2.2.2.2.2.2.2.2.2
                refine wp_region_mix3 (KeepsBut [g]) (KeepsBut.refl [g]) (KeepsBut.trans [g]) [5, 7] [(0, 0), (0, 2), (1, 1), (2, 3), (2, 4), (2, 5), (0, 6), (2, 7)] (by kernel_rfl) (by kernel_rfl) (fun d _ _ _ _ h => by cases d <;> exact h) ?_
                generalize wr.drew = wd at HS d10 ⊢
                repeat ((first | (refine mix3_free (v := ?_) rfl rfl ?_ (mix3_norm (a' := ?_) ?_ ?_); rotate_left; focus (intro w'; go_simp; first | done | (with_reducible rfl))) | (refine mix3_pure (v := ?_) rfl rfl ?_ (mix3_norm (a' := ?_) ?_ ?_); rotate_left; focus (intro w' hR; go_simp; first | done | (with_reducible rfl))) | refine mix3_freeOff rfl rfl (mix3_norm (a' := ?_) ?_ ?_) | refine mix3_off rfl rfl (mix3_norm (a' := ?_) ?_ ?_)); rotate_left; focus (simp only [Act.put, List.getElem_toArray, List.getElem_cons_zero, List.getElem_cons_succ, List.setIfInBounds_toArray, List.set_cons_zero, List.set_cons_succ]; rfl))
                clear d10
                refine mix3_eff rfl ?_
                simp only [List.getElem_toArray, List.getElem_cons_zero, List.getElem_cons_succ]
                go_wp2_with fail
                refine (frTextC_any HS.out.rd HS.out.len HS.out.hbr 32).mono ?_
                rintro e w8 ⟨rfl, hp⟩
                have HS := Lib.hid (HS.out.step hp (tS_len _ _))
                have hk := hp.2.keeps (M := [g]) (fun i _ h => List.mem_singleton.2 h)
                clear hp
                go_wp2_with fail
                refine mixQ3_normal hk rfl ?_
                clear hk
                refine mix3_eff rfl ?_
                simp only [List.getElem_toArray, List.getElem_cons_zero, List.getElem_cons_succ]
                go_wp2_with fail
                have hk : KeepsBut [g] w8 (w8.alloc (.cells #[.string (tN sj 32)] 9)) := KeepsBut.of_below (alloc1 _ _ _).1
                have HR := Lib.hid (Reads.box w8 (.string (tN sj 32)) 9)
                have HS := Lib.hid (HS.out.below (alloc1 w8 #[.string (tN sj 32)] 9).1)
                refine mixQ3_normal hk rfl ?_
                clear hk
                obtain ⟨L1, hL1⟩ : ∃ L1, L1 = L ++ [tN sj 32] := ⟨_, rfl⟩
                rw [← hL1] at HT
                have HL1 := Lib.hid hL1
                clear hL1
                refine mix3_eff rfl ?_
                simp only [List.getElem_toArray, List.getElem_cons_zero, List.getElem_cons_succ]
                go_wp2_with (at_builtin; refine append_stn rfl (.tmp 67) (.tmp 70) rfl A c L rfl HS.out.row (some ⟨w8.heap.size, 0, none⟩) 1 [tN sj 32] 1 rfl rfl HR.out (by rw [HLn.out]; omega) L1 HL1.out ?_)
                intro A1 c1 w9 hr1 hc1 hk1
                have HS := Lib.hid (HS.out.rowTo hr1 hc1 (fun k hk => (hk1 k hk).imp id (fun e => by rw [e]; exact (size_alloc _ _).symm)))
                clear hr1 hc1 hk1
                go_wp2_with fail
                refine mixQ3_last (by decide) rfl ?_
                repeat ((first | (refine mix3_free (v := ?_) rfl rfl ?_ (mix3_norm (a' := ?_) ?_ ?_); rotate_left; focus (intro w'; go_simp; first | done | (with_reducible rfl))) | (refine mix3_pure (v := ?_) rfl rfl ?_ (mix3_norm (a' := ?_) ?_ ?_); rotate_left; focus (intro w' hR; go_simp; first | done | (with_reducible rfl))) | refine mix3_freeOff rfl rfl (mix3_norm (a' := ?_) ?_ ?_) | refine mix3_off rfl rfl (mix3_norm (a' := ?_) ?_ ?_)); rotate_left; focus (simp only [Act.put, List.getElem_toArray, List.getElem_cons_zero, List.getElem_cons_succ, List.setIfInBounds_toArray, List.set_cons_zero, List.set_cons_succ]; rfl))
                obtain ⟨d0, d1, d2, d3, d4, d5, d6, d7, d8, d9, d10⟩ := cells11 HS.out.hbf
                obtain ⟨t0, t1, t2, t3, t4, t5, t6, t7, t8, t9, t10⟩ := froz11 HS.out.hbf
                refine mix3_eff rfl ?_
                simp only [List.getElem_toArray, List.getElem_cons_zero, List.getElem_cons_succ]
                go_wp2_with fail
                refine mixQ3_last (by decide) rfl ?_
                clear d0 d1 d2 d3 d4 d5 d6 d7 d8 d9 d10 t0 t1 t2 t3 t4 t5 t6 t7 t8 t9 t10
                refine mix3_done ?_
                have HS := Lib.hid (HS.out.set 10 (.slice A1 L1.length c1))
                simp only [List.setIfInBounds_toArray, List.set_cons_zero, List.set_cons_succ] at HS
                generalize w9.setCell ⟨bf, 10, none⟩ _ = w10 at HS ⊢
                rw [← HT.out.1, ← HT.out.2] at HS
                go_wp2_with fail
                case roundEnd =>
                  exact ⟨⟨j + 1, A1, c1, by omega, by push_cast; rfl, HS⟩, by simp only [intOf]; omega⟩
              · obtain rfl : j = m := by omega
                go_wp2_with fail
                apply wp_label
                go_wp2_with fail
                generalize (tList sl j).2 = sf at HX HS
                generalize (tList sl j).1 = L at HX HS
                have HS := Lib.hid HS.out.drew
                obtain ⟨d0, d1, d2, d3, d4, d5, d6, d7, d8, d9, d10⟩ := keeps11 (M := []) HS.out.hbf (by simp)
                have bx := fun w' (hk : KeepsBut [] wr.drew w') => hk.cell (p := ⟨br, 0, none⟩) (cells1 HS.out.hbr).1 (by simp)
                have h2 := HS.out.h2
                unfold fr0c at h2
                obtain ⟨y0, y1, y2, y3, y4, y5, y6, y7, y8, y9, y10⟩ := cells11 h2
                obtain ⟨z0, z1, z2, z3, z4, z5, z6, z7, z8, z9, z10⟩ := froz11 h2
                have H2 := Lib.hid h2
                clear h2
                cases hz : ((sf.2 : Int) == 0)
                case true =>
                  refine wp_region_mix3 (KeepsBut []) (KeepsBut.refl []) (KeepsBut.trans []) [9] [(1, 0), (1, 1), (2, 2), (0, 3), (0, 4), (1, 5), (2, 6), (0, 7), (0, 8), (2, 9), (0, 10)] (by kernel_rfl) (by kernel_rfl) (fun d _ _ _ _ h => by cases d <;> exact h) ?_
                  generalize wr.drew = wd at HS H2 bx d0 d1 d2 d3 d4 d5 d6 d7 d8 d9 d10 y0 y1 y2 y3 y4 y5 y6 y7 y8 y9 y10 z0 z1 z2 z3 z4 z5 z6 z7 z8 z9 z10 ⊢
                  repeat ((first | (refine mix3_free (v := ?_) rfl rfl ?_ (mix3_norm (a' := ?_) ?_ ?_); rotate_left; focus (intro w'; go_simp; first | done | (with_reducible rfl))) | (refine mix3_pure (v := ?_) rfl rfl ?_ (mix3_norm (a' := ?_) ?_ ?_); rotate_left; focus (intro w' hR; go_simp; first | done | (with_reducible rfl))) | refine mix3_freeOff rfl rfl (mix3_norm (a' := ?_) ?_ ?_) | refine mix3_off rfl rfl (mix3_norm (a' := ?_) ?_ ?_)); rotate_left; focus (simp only [Act.put, List.getElem_toArray, List.getElem_cons_zero, List.getElem_cons_succ, List.setIfInBounds_toArray, List.set_cons_zero, List.set_cons_succ]; rfl))
                  refine mix3_eff rfl ?_
                  simp only [List.getElem_toArray, List.getElem_cons_zero, List.getElem_cons_succ]
                  go_wp2_with fail
                  refine (why_any g sf.1 sf.2 _ (IsRB.isR HS.out.rd)).mono ?_
                  rintro e w' ⟨rfl, rfl⟩
                  go_wp2_with fail
                  refine mixQ3_normal (KeepsBut.refl _ _) rfl ?_
                  repeat ((first | (refine mix3_free (v := ?_) rfl rfl ?_ (mix3_norm (a' := ?_) ?_ ?_); rotate_left; focus (intro w'; go_simp; first | done | (with_reducible rfl))) | (refine mix3_pure (v := ?_) rfl rfl ?_ (mix3_norm (a' := ?_) ?_ ?_); rotate_left; focus (intro w' hR; go_simp; first | done | (with_reducible rfl))) | refine mix3_freeOff rfl rfl (mix3_norm (a' := ?_) ?_ ?_) | refine mix3_off rfl rfl (mix3_norm (a' := ?_) ?_ ?_)); rotate_left; focus (simp only [Act.put, List.getElem_toArray, List.getElem_cons_zero, List.getElem_cons_succ, List.setIfInBounds_toArray, List.set_cons_zero, List.set_cons_succ]; rfl))
                  refine mix3_eff rfl ?_
                  simp only [List.getElem_toArray, List.getElem_cons_zero, List.getElem_cons_succ]
                  go_wp2_with fail
                  refine (left_any g sf.1 sf.2 _ (IsRB.isR HS.out.rd)).mono ?_
                  rintro e w' ⟨rfl, rfl⟩
                  go_wp2_with fail
                  refine mixQ3_normal (KeepsBut.refl _ _) rfl ?_
                  repeat ((first | (refine mix3_free (v := ?_) rfl rfl ?_ (mix3_norm (a' := ?_) ?_ ?_); rotate_left; focus (intro w'; go_simp; first | done | (with_reducible rfl))) | (refine mix3_pure (v := ?_) rfl rfl ?_ (mix3_norm (a' := ?_) ?_ ?_); rotate_left; focus (intro w' hR; go_simp; first | done | (with_reducible rfl))) | refine mix3_freeOff rfl rfl (mix3_norm (a' := ?_) ?_ ?_) | refine mix3_off rfl rfl (mix3_norm (a' := ?_) ?_ ?_)); rotate_left; focus (simp only [Act.put, List.getElem_toArray, List.getElem_cons_zero, List.getElem_cons_succ, List.setIfInBounds_toArray, List.set_cons_zero, List.set_cons_succ]; rfl))
                  clear d0 d1 d2 d3 d4 d5 d6 d7 d8 d9 d10 bx
                  refine mix3_eff rfl ?_
                  simp only [List.getElem_toArray, List.getElem_cons_zero, List.getElem_cons_succ]
                  go_wp2_with fail
                  refine mixQ3_last (by decide) rfl ?_
                  repeat ((first | (refine mix3_free (v := ?_) rfl rfl ?_ (mix3_norm (a' := ?_) ?_ ?_); rotate_left; focus (intro w'; go_simp; first | done | (with_reducible rfl))) | (refine mix3_pure (v := ?_) rfl rfl ?_ (mix3_norm (a' := ?_) ?_ ?_); rotate_left; focus (intro w' hR; go_simp; first | done | (with_reducible rfl))) | refine mix3_freeOff rfl rfl (mix3_norm (a' := ?_) ?_ ?_) | refine mix3_off rfl rfl (mix3_norm (a' := ?_) ?_ ?_)); rotate_left; focus (simp only [Act.put, List.getElem_toArray, List.getElem_cons_zero, List.getElem_cons_succ, List.setIfInBounds_toArray, List.set_cons_zero, List.set_cons_succ]; rfl))
                  refine mix3_done ?_
                  go_wp2_with fail
                  rw [jump_ret]
                  obtain ⟨u1, u2⟩ := set11 H2.out (mk11 _ _ _ _ _ _ _ _ _ _ _) _ _ _ _ _ _ _ _ _ _ _
                  refine bodyPost_ret (results_cell_tmp_row rfl _ _ w.heap.size _ _ _ _ rfl u1 Try.underlying58 rfl (by kernel_rfl)) rfl ⟨A, c, ?_, ?_⟩
                  · rw [HX.out]; unfold okS; rw [hz]; rfl
                  · rw [HX.out]; exact HS.out.fin u2
                case false =>
                  refine wp_region_mix3 (KeepsBut []) (KeepsBut.refl []) (KeepsBut.trans []) [9] [(1, 0), (1, 1), (2, 2), (0, 3), (0, 4), (1, 5), (2, 6), (0, 7), (0, 8), (2, 9), (0, 10)] (by kernel_rfl) (by kernel_rfl) (fun d _ _ _ _ h => by cases d <;> exact h) ?_
                  generalize wr.drew = wd at HS H2 bx d0 d1 d2 d3 d4 d5 d6 d7 d8 d9 d10 y0 y1 y2 y3 y4 y5 y6 y7 y8 y9 y10 z0 z1 z2 z3 z4 z5 z6 z7 z8 z9 z10 ⊢
                  repeat ((first | (refine mix3_free (v := ?_) rfl rfl ?_ (mix3_norm (a' := ?_) ?_ ?_); rotate_left; focus (intro w'; go_simp; first | done | (with_reducible rfl))) | (refine mix3_pure (v := ?_) rfl rfl ?_ (mix3_norm (a' := ?_) ?_ ?_); rotate_left; focus (intro w' hR; go_simp; first | done | (with_reducible rfl))) | refine mix3_freeOff rfl rfl (mix3_norm (a' := ?_) ?_ ?_) | refine mix3_off rfl rfl (mix3_norm (a' := ?_) ?_ ?_)); rotate_left; focus (simp only [Act.put, List.getElem_toArray, List.getElem_cons_zero, List.getElem_cons_succ, List.setIfInBounds_toArray, List.set_cons_zero, List.set_cons_succ]; rfl))
                  refine mix3_eff rfl ?_
                  simp only [List.getElem_toArray, List.getElem_cons_zero, List.getElem_cons_succ]
                  go_wp2_with fail
                  refine (why_any g sf.1 sf.2 _ (IsRB.isR HS.out.rd)).mono ?_
                  rintro e w' ⟨rfl, rfl⟩
                  go_wp2_with fail
                  refine mixQ3_normal (KeepsBut.refl _ _) rfl ?_
                  repeat ((first | (refine mix3_free (v := ?_) rfl rfl ?_ (mix3_norm (a' := ?_) ?_ ?_); rotate_left; focus (intro w'; go_simp; first | done | (with_reducible rfl))) | (refine mix3_pure (v := ?_) rfl rfl ?_ (mix3_norm (a' := ?_) ?_ ?_); rotate_left; focus (intro w' hR; go_simp; first | done | (with_reducible rfl))) | refine mix3_freeOff rfl rfl (mix3_norm (a' := ?_) ?_ ?_) | refine mix3_off rfl rfl (mix3_norm (a' := ?_) ?_ ?_)); rotate_left; focus (simp only [Act.put, List.getElem_toArray, List.getElem_cons_zero, List.getElem_cons_succ, List.setIfInBounds_toArray, List.set_cons_zero, List.set_cons_succ]; rfl))
                  refine mix3_skip (KeepsBut.refl []) rfl rfl (mix3_norm (a' := ?_) ?_ ?_)
                  rotate_left
                  focus (simp only [Act.put, List.getElem_toArray, List.getElem_cons_zero, List.getElem_cons_succ, List.setIfInBounds_toArray, List.set_cons_zero, List.set_cons_succ]; rfl)
                  repeat ((first | (refine mix3_free (v := ?_) rfl rfl ?_ (mix3_norm (a' := ?_) ?_ ?_); rotate_left; focus (intro w'; go_simp; first | done | (with_reducible rfl))) | (refine mix3_pure (v := ?_) rfl rfl ?_ (mix3_norm (a' := ?_) ?_ ?_); rotate_left; focus (intro w' hR; go_simp; first | done | (with_reducible rfl))) | refine mix3_freeOff rfl rfl (mix3_norm (a' := ?_) ?_ ?_) | refine mix3_off rfl rfl (mix3_norm (a' := ?_) ?_ ?_)); rotate_left; focus (simp only [Act.put, List.getElem_toArray, List.getElem_cons_zero, List.getElem_cons_succ, List.setIfInBounds_toArray, List.set_cons_zero, List.set_cons_succ]; rfl))
                  clear d0 d1 d2 d3 d4 d5 d6 d7 d8 d9 d10 bx
                  refine mix3_eff rfl ?_
                  simp only [List.getElem_toArray, List.getElem_cons_zero, List.getElem_cons_succ]
                  go_wp2_with fail
                  refine mixQ3_last (by decide) rfl ?_
                  repeat ((first | (refine mix3_free (v := ?_) rfl rfl ?_ (mix3_norm (a' := ?_) ?_ ?_); rotate_left; focus (intro w'; go_simp; first | done | (with_reducible rfl))) | (refine mix3_pure (v := ?_) rfl rfl ?_ (mix3_norm (a' := ?_) ?_ ?_); rotate_left; focus (intro w' hR; go_simp; first | done | (with_reducible rfl))) | refine mix3_freeOff rfl rfl (mix3_norm (a' := ?_) ?_ ?_) | refine mix3_off rfl rfl (mix3_norm (a' := ?_) ?_ ?_)); rotate_left; focus (simp only [Act.put, List.getElem_toArray, List.getElem_cons_zero, List.getElem_cons_succ, List.setIfInBounds_toArray, List.set_cons_zero, List.set_cons_succ]; rfl))
                  refine mix3_done ?_
                  go_wp2_with fail
                  rw [jump_ret]
                  obtain ⟨u1, u2⟩ := set11 H2.out (mk11 _ _ _ _ _ _ _ _ _ _ _) _ _ _ _ _ _ _ _ _ _ _
                  refine bodyPost_ret (results_cell_tmp_row rfl _ _ w.heap.size _ _ _ _ rfl u1 Try.underlying58 rfl (by kernel_rfl)) rfl ⟨A, c, ?_, ?_⟩
                  · rw [HX.out]; unfold okS; rw [hz]; rfl
                  · rw [HX.out]; exact HS.out.fin u2
          | false =>
            cases h6 : (k == 6) with
            | true =>
              have HX := Lib.hid (HX.out.trans (readB_6 h7 h1 h2 h4 h6))
              obtain ⟨d0, d1, d2, d3, d4, d5, d6, d7, d8, d9, d10⟩ := cells11 HS.out.hbf
              go_wp2_with fail
              clear d0 d1 d2 d3 d4 d5 d6 d7 d8 d9 d10
              refine (frNumC_any HS.out.rd HS.out.hbr 2 (Nat.lt_trans (nN_lt _ _) (by decide))).mono ?_
              rintro e w5 ⟨rfl, hp⟩
              have HS := Lib.hid (HS.out.step hp (nS_len _ _))
              clear hp
              obtain ⟨d0, d1, d2, d3, d4, d5, d6, d7, d8, d9, d10⟩ := cells11 HS.out.hbf
              obtain ⟨t0, t1, t2, t3, t4, t5, t6, t7, t8, t9, t10⟩ := froz11 HS.out.hbf
              go_wp2_with fail
              have HS := Lib.hid (HS.out.set 7 (.int .i64 (nN s 2 : Nat)))
              simp only [List.setIfInBounds_toArray, List.set_cons_zero, List.set_cons_succ] at HS
              clear d0 d1 d2 d3 d4 d5 d6 d7 d8 d9 d10 t0 t1 t2 t3 t4 t5 t6 t7 t8 t9 t10
              generalize w5.setCell ⟨bf, 7, none⟩ _ = w6 at HS ⊢
              go_wp2_with fail
              refine (frTextC_any HS.out.rd HS.out.len HS.out.hbr 64).mono ?_
              rintro e w7 ⟨rfl, hp⟩
              have HS := Lib.hid (HS.out.step hp (tS_len _ _))
              clear hp
              obtain ⟨d0, d1, d2, d3, d4, d5, d6, d7, d8, d9, d10⟩ := cells11 HS.out.hbf
              obtain ⟨t0, t1, t2, t3, t4, t5, t6, t7, t8, t9, t10⟩ := froz11 HS.out.hbf
              go_wp2_with fail
              have HS := Lib.hid (HS.out.set 9 (.string (tN (nS s 2) 64)))
              simp only [List.setIfInBounds_toArray, List.set_cons_zero, List.set_cons_succ] at HS
              clear d0 d1 d2 d3 d4 d5 d6 d7 d8 d9 d10 t0 t1 t2 t3 t4 t5 t6 t7 t8 t9 t10
              generalize w7.setCell ⟨bf, 9, none⟩ _ = w8 at HS ⊢
              go_wp2_with fail
              go_loopw [64] (fun i wr => i = .int .i64 0 ∧ Hid (w8 = wr)) (fun _ _ => 0)
              case atStart => exact ⟨rfl, Lib.hid rfl⟩
              case round =>
                obtain ⟨rfl, HW⟩ := hrel
                obtain rfl := HW.out
                go_wp2_with fail
                apply wp_label
                go_wp2_with fail
                generalize tS (nS s 2) 64 = sf at HX HS

                have HS := Lib.hid HS.out.drew
                obtain ⟨d0, d1, d2, d3, d4, d5, d6, d7, d8, d9, d10⟩ := keeps11 (M := []) HS.out.hbf (by simp)
                have bx := fun w' (hk : KeepsBut [] w8.drew w') => hk.cell (p := ⟨br, 0, none⟩) (cells1 HS.out.hbr).1 (by simp)
                have h2 := HS.out.h2
                unfold fr0c at h2
                obtain ⟨y0, y1, y2, y3, y4, y5, y6, y7, y8, y9, y10⟩ := cells11 h2
                obtain ⟨z0, z1, z2, z3, z4, z5, z6, z7, z8, z9, z10⟩ := froz11 h2
                have H2 := Lib.hid h2
                clear h2
                cases hz : ((sf.2 : Int) == 0)
                case true =>
                  refine wp_region_mix3 (KeepsBut []) (KeepsBut.refl []) (KeepsBut.trans []) [9] [(1, 0), (1, 1), (2, 2), (0, 3), (0, 4), (1, 5), (2, 6), (0, 7), (0, 8), (2, 9), (0, 10)] (by kernel_rfl) (by kernel_rfl) (fun d _ _ _ _ h => by cases d <;> exact h) ?_
                  generalize w8.drew = wd at HS H2 bx d0 d1 d2 d3 d4 d5 d6 d7 d8 d9 d10 y0 y1 y2 y3 y4 y5 y6 y7 y8 y9 y10 z0 z1 z2 z3 z4 z5 z6 z7 z8 z9 z10 ⊢
                  repeat ((first | (refine mix3_free (v := ?_) rfl rfl ?_ (mix3_norm (a' := ?_) ?_ ?_); rotate_left; focus (intro w'; go_simp; first | done | (with_reducible rfl))) | (refine mix3_pure (v := ?_) rfl rfl ?_ (mix3_norm (a' := ?_) ?_ ?_); rotate_left; focus (intro w' hR; go_simp; first | done | (with_reducible rfl))) | refine mix3_freeOff rfl rfl (mix3_norm (a' := ?_) ?_ ?_) | refine mix3_off rfl rfl (mix3_norm (a' := ?_) ?_ ?_)); rotate_left; focus (simp only [Act.put, List.getElem_toArray, List.getElem_cons_zero, List.getElem_cons_succ, List.setIfInBounds_toArray, List.set_cons_zero, List.set_cons_succ]; rfl))
                  refine mix3_eff rfl ?_
                  simp only [List.getElem_toArray, List.getElem_cons_zero, List.getElem_cons_succ]
                  go_wp2_with fail
                  refine (why_any g sf.1 sf.2 _ (IsRB.isR HS.out.rd)).mono ?_
                  rintro e w' ⟨rfl, rfl⟩
                  go_wp2_with fail
                  refine mixQ3_normal (KeepsBut.refl _ _) rfl ?_
                  repeat ((first | (refine mix3_free (v := ?_) rfl rfl ?_ (mix3_norm (a' := ?_) ?_ ?_); rotate_left; focus (intro w'; go_simp; first | done | (with_reducible rfl))) | (refine mix3_pure (v := ?_) rfl rfl ?_ (mix3_norm (a' := ?_) ?_ ?_); rotate_left; focus (intro w' hR; go_simp; first | done | (with_reducible rfl))) | refine mix3_freeOff rfl rfl (mix3_norm (a' := ?_) ?_ ?_) | refine mix3_off rfl rfl (mix3_norm (a' := ?_) ?_ ?_)); rotate_left; focus (simp only [Act.put, List.getElem_toArray, List.getElem_cons_zero, List.getElem_cons_succ, List.setIfInBounds_toArray, List.set_cons_zero, List.set_cons_succ]; rfl))
                  refine mix3_eff rfl ?_
                  simp only [List.getElem_toArray, List.getElem_cons_zero, List.getElem_cons_succ]
                  go_wp2_with fail
                  refine (left_any g sf.1 sf.2 _ (IsRB.isR HS.out.rd)).mono ?_
                  rintro e w' ⟨rfl, rfl⟩
                  go_wp2_with fail
                  refine mixQ3_normal (KeepsBut.refl _ _) rfl ?_
                  repeat ((first | (refine mix3_free (v := ?_) rfl rfl ?_ (mix3_norm (a' := ?_) ?_ ?_); rotate_left; focus (intro w'; go_simp; first | done | (with_reducible rfl))) | (refine mix3_pure (v := ?_) rfl rfl ?_ (mix3_norm (a' := ?_) ?_ ?_); rotate_left; focus (intro w' hR; go_simp; first | done | (with_reducible rfl))) | refine mix3_freeOff rfl rfl (mix3_norm (a' := ?_) ?_ ?_) | refine mix3_off rfl rfl (mix3_norm (a' := ?_) ?_ ?_)); rotate_left; focus (simp only [Act.put, List.getElem_toArray, List.getElem_cons_zero, List.getElem_cons_succ, List.setIfInBounds_toArray, List.set_cons_zero, List.set_cons_succ]; rfl))
                  clear d0 d1 d2 d3 d4 d5 d6 d7 d8 d9 d10 bx
                  refine mix3_eff rfl ?_
                  simp only [List.getElem_toArray, List.getElem_cons_zero, List.getElem_cons_succ]
                  go_wp2_with fail
                  refine mixQ3_last (by decide) rfl ?_
                  repeat ((first | (refine mix3_free (v := ?_) rfl rfl ?_ (mix3_norm (a' := ?_) ?_ ?_); rotate_left; focus (intro w'; go_simp; first | done | (with_reducible rfl))) | (refine mix3_pure (v := ?_) rfl rfl ?_ (mix3_norm (a' := ?_) ?_ ?_); rotate_left; focus (intro w' hR; go_simp; first | done | (with_reducible rfl))) | refine mix3_freeOff rfl rfl (mix3_norm (a' := ?_) ?_ ?_) | refine mix3_off rfl rfl (mix3_norm (a' := ?_) ?_ ?_)); rotate_left; focus (simp only [Act.put, List.getElem_toArray, List.getElem_cons_zero, List.getElem_cons_succ, List.setIfInBounds_toArray, List.set_cons_zero, List.set_cons_succ]; rfl))
                  refine mix3_done ?_
                  go_wp2_with fail
                  rw [jump_ret]
                  obtain ⟨u1, u2⟩ := set11 H2.out (mk11 _ _ _ _ _ _ _ _ _ _ _) _ _ _ _ _ _ _ _ _ _ _
                  refine bodyPost_ret (results_cell_tmp_row rfl _ _ w.heap.size _ _ _ _ rfl u1 Try.underlying58 rfl (by kernel_rfl)) rfl ⟨none, 0, ?_, ?_⟩
                  · rw [HX.out]; unfold okS; rw [hz]; rfl
                  · rw [HX.out]; exact HS.out.fin u2
                case false =>
                  refine wp_region_mix3 (KeepsBut []) (KeepsBut.refl []) (KeepsBut.trans []) [9] [(1, 0), (1, 1), (2, 2), (0, 3), (0, 4), (1, 5), (2, 6), (0, 7), (0, 8), (2, 9), (0, 10)] (by kernel_rfl) (by kernel_rfl) (fun d _ _ _ _ h => by cases d <;> exact h) ?_
                  generalize w8.drew = wd at HS H2 bx d0 d1 d2 d3 d4 d5 d6 d7 d8 d9 d10 y0 y1 y2 y3 y4 y5 y6 y7 y8 y9 y10 z0 z1 z2 z3 z4 z5 z6 z7 z8 z9 z10 ⊢
                  repeat ((first | (refine mix3_free (v := ?_) rfl rfl ?_ (mix3_norm (a' := ?_) ?_ ?_); rotate_left; focus (intro w'; go_simp; first | done | (with_reducible rfl))) | (refine mix3_pure (v := ?_) rfl rfl ?_ (mix3_norm (a' := ?_) ?_ ?_); rotate_left; focus (intro w' hR; go_simp; first | done | (with_reducible rfl))) | refine mix3_freeOff rfl rfl (mix3_norm (a' := ?_) ?_ ?_) | refine mix3_off rfl rfl (mix3_norm (a' := ?_) ?_ ?_)); rotate_left; focus (simp only [Act.put, List.getElem_toArray, List.getElem_cons_zero, List.getElem_cons_succ, List.setIfInBounds_toArray, List.set_cons_zero, List.set_cons_succ]; rfl))
                  refine mix3_eff rfl ?_
                  simp only [List.getElem_toArray, List.getElem_cons_zero, List.getElem_cons_succ]
                  go_wp2_with fail
                  refine (why_any g sf.1 sf.2 _ (IsRB.isR HS.out.rd)).mono ?_
                  rintro e w' ⟨rfl, rfl⟩
                  go_wp2_with fail
                  refine mixQ3_normal (KeepsBut.refl _ _) rfl ?_
                  repeat ((first | (refine mix3_free (v := ?_) rfl rfl ?_ (mix3_norm (a' := ?_) ?_ ?_); rotate_left; focus (intro w'; go_simp; first | done | (with_reducible rfl))) | (refine mix3_pure (v := ?_) rfl rfl ?_ (mix3_norm (a' := ?_) ?_ ?_); rotate_left; focus (intro w' hR; go_simp; first | done | (with_reducible rfl))) | refine mix3_freeOff rfl rfl (mix3_norm (a' := ?_) ?_ ?_) | refine mix3_off rfl rfl (mix3_norm (a' := ?_) ?_ ?_)); rotate_left; focus (simp only [Act.put, List.getElem_toArray, List.getElem_cons_zero, List.getElem_cons_succ, List.setIfInBounds_toArray, List.set_cons_zero, List.set_cons_succ]; rfl))
                  refine mix3_skip (KeepsBut.refl []) rfl rfl (mix3_norm (a' := ?_) ?_ ?_)
                  rotate_left
                  focus (simp only [Act.put, List.getElem_toArray, List.getElem_cons_zero, List.getElem_cons_succ, List.setIfInBounds_toArray, List.set_cons_zero, List.set_cons_succ]; rfl)
                  repeat ((first | (refine mix3_free (v := ?_) rfl rfl ?_ (mix3_norm (a' := ?_) ?_ ?_); rotate_left; focus (intro w'; go_simp; first | done | (with_reducible rfl))) | (refine mix3_pure (v := ?_) rfl rfl ?_ (mix3_norm (a' := ?_) ?_ ?_); rotate_left; focus (intro w' hR; go_simp; first | done | (with_reducible rfl))) | refine mix3_freeOff rfl rfl (mix3_norm (a' := ?_) ?_ ?_) | refine mix3_off rfl rfl (mix3_norm (a' := ?_) ?_ ?_)); rotate_left; focus (simp only [Act.put, List.getElem_toArray, List.getElem_cons_zero, List.getElem_cons_succ, List.setIfInBounds_toArray, List.set_cons_zero, List.set_cons_succ]; rfl))
                  clear d0 d1 d2 d3 d4 d5 d6 d7 d8 d9 d10 bx
                  refine mix3_eff rfl ?_
                  simp only [List.getElem_toArray, List.getElem_cons_zero, List.getElem_cons_succ]
                  go_wp2_with fail
                  refine mixQ3_last (by decide) rfl ?_
                  repeat ((first | (refine mix3_free (v := ?_) rfl rfl ?_ (mix3_norm (a' := ?_) ?_ ?_); rotate_left; focus (intro w'; go_simp; first | done | (with_reducible rfl))) | (refine mix3_pure (v := ?_) rfl rfl ?_ (mix3_norm (a' := ?_) ?_ ?_); rotate_left; focus (intro w' hR; go_simp; first | done | (with_reducible rfl))) | refine mix3_freeOff rfl rfl (mix3_norm (a' := ?_) ?_ ?_) | refine mix3_off rfl rfl (mix3_norm (a' := ?_) ?_ ?_)); rotate_left; focus (simp only [Act.put, List.getElem_toArray, List.getElem_cons_zero, List.getElem_cons_succ, List.setIfInBounds_toArray, List.set_cons_zero, List.set_cons_succ]; rfl))
                  refine mix3_done ?_
                  go_wp2_with fail
                  rw [jump_ret]
                  obtain ⟨u1, u2⟩ := set11 H2.out (mk11 _ _ _ _ _ _ _ _ _ _ _) _ _ _ _ _ _ _ _ _ _ _
                  refine bodyPost_ret (results_cell_tmp_row rfl _ _ w.heap.size _ _ _ _ rfl u1 Try.underlying58 rfl (by kernel_rfl)) rfl ⟨none, 0, ?_, ?_⟩
                  · rw [HX.out]; unfold okS; rw [hz]; rfl
                  · rw [HX.out]; exact HS.out.fin u2
            | false =>
              have HX := Lib.hid (HX.out.trans (readB_x h7 h1 h2 h4 h6))
              obtain ⟨d0, d1, d2, d3, d4, d5, d6, d7, d8, d9, d10⟩ := cells11 HS.out.hbf
              go_wp2_with fail
              clear d0 d1 d2 d3 d4 d5 d6 d7 d8 d9 d10
              refine (frNumC_any HS.out.rd HS.out.hbr 2 (Nat.lt_trans (nN_lt _ _) (by decide))).mono ?_
              rintro e w5 ⟨rfl, hp⟩
              have HS := Lib.hid (HS.out.step hp (nS_len _ _))
              clear hp
              obtain ⟨d0, d1, d2, d3, d4, d5, d6, d7, d8, d9, d10⟩ := cells11 HS.out.hbf
              obtain ⟨t0, t1, t2, t3, t4, t5, t6, t7, t8, t9, t10⟩ := froz11 HS.out.hbf
              go_wp2_with fail
              have HS := Lib.hid (HS.out.set 7 (.int .i64 (nN s 2 : Nat)))
              simp only [List.setIfInBounds_toArray, List.set_cons_zero, List.set_cons_succ] at HS
              clear d0 d1 d2 d3 d4 d5 d6 d7 d8 d9 d10 t0 t1 t2 t3 t4 t5 t6 t7 t8 t9 t10
              generalize w5.setCell ⟨bf, 7, none⟩ _ = w6 at HS ⊢
              go_wp2_with fail
              go_loopw [64] (fun i wr => i = .int .i64 0 ∧ Hid (w6 = wr)) (fun _ _ => 0)
              case atStart => exact ⟨rfl, Lib.hid rfl⟩
              case round =>
                obtain ⟨rfl, HW⟩ := hrel
                obtain rfl := HW.out
                go_wp2_with fail
                apply wp_label
                go_wp2_with fail
                generalize nS s 2 = sf at HX HS

                have HS := Lib.hid HS.out.drew
                obtain ⟨d0, d1, d2, d3, d4, d5, d6, d7, d8, d9, d10⟩ := keeps11 (M := []) HS.out.hbf (by simp)
                have bx := fun w' (hk : KeepsBut [] w6.drew w') => hk.cell (p := ⟨br, 0, none⟩) (cells1 HS.out.hbr).1 (by simp)
                have h2 := HS.out.h2
                unfold fr0c at h2
                obtain ⟨y0, y1, y2, y3, y4, y5, y6, y7, y8, y9, y10⟩ := cells11 h2
                obtain ⟨z0, z1, z2, z3, z4, z5, z6, z7, z8, z9, z10⟩ := froz11 h2
                have H2 := Lib.hid h2
                clear h2
                cases hz : ((sf.2 : Int) == 0)
                case true =>
                  refine wp_region_mix3 (KeepsBut []) (KeepsBut.refl []) (KeepsBut.trans []) [9] [(1, 0), (1, 1), (2, 2), (0, 3), (0, 4), (1, 5), (2, 6), (0, 7), (0, 8), (2, 9), (0, 10)] (by kernel_rfl) (by kernel_rfl) (fun d _ _ _ _ h => by cases d <;> exact h) ?_
                  generalize w6.drew = wd at HS H2 bx d0 d1 d2 d3 d4 d5 d6 d7 d8 d9 d10 y0 y1 y2 y3 y4 y5 y6 y7 y8 y9 y10 z0 z1 z2 z3 z4 z5 z6 z7 z8 z9 z10 ⊢
                  repeat ((first | (refine mix3_free (v := ?_) rfl rfl ?_ (mix3_norm (a' := ?_) ?_ ?_); rotate_left; focus (intro w'; go_simp; first | done | (with_reducible rfl))) | (refine mix3_pure (v := ?_) rfl rfl ?_ (mix3_norm (a' := ?_) ?_ ?_); rotate_left; focus (intro w' hR; go_simp; first | done | (with_reducible rfl))) | refine mix3_freeOff rfl rfl (mix3_norm (a' := ?_) ?_ ?_) | refine mix3_off rfl rfl (mix3_norm (a' := ?_) ?_ ?_)); rotate_left; focus (simp only [Act.put, List.getElem_toArray, List.getElem_cons_zero, List.getElem_cons_succ, List.setIfInBounds_toArray, List.set_cons_zero, List.set_cons_succ]; rfl))
                  refine mix3_eff rfl ?_
                  simp only [List.getElem_toArray, List.getElem_cons_zero, List.getElem_cons_succ]
                  go_wp2_with fail
                  refine (why_any g sf.1 sf.2 _ (IsRB.isR HS.out.rd)).mono ?_
                  rintro e w' ⟨rfl, rfl⟩
                  go_wp2_with fail
                  refine mixQ3_normal (KeepsBut.refl _ _) rfl ?_
                  repeat ((first | (refine mix3_free (v := ?_) rfl rfl ?_ (mix3_norm (a' := ?_) ?_ ?_); rotate_left; focus (intro w'; go_simp; first | done | (with_reducible rfl))) | (refine mix3_pure (v := ?_) rfl rfl ?_ (mix3_norm (a' := ?_) ?_ ?_); rotate_left; focus (intro w' hR; go_simp; first | done | (with_reducible rfl))) | refine mix3_freeOff rfl rfl (mix3_norm (a' := ?_) ?_ ?_) | refine mix3_off rfl rfl (mix3_norm (a' := ?_) ?_ ?_)); rotate_left; focus (simp only [Act.put, List.getElem_toArray, List.getElem_cons_zero, List.getElem_cons_succ, List.setIfInBounds_toArray, List.set_cons_zero, List.set_cons_succ]; rfl))
                  refine mix3_eff rfl ?_
                  simp only [List.getElem_toArray, List.getElem_cons_zero, List.getElem_cons_succ]
                  go_wp2_with fail
                  refine (left_any g sf.1 sf.2 _ (IsRB.isR HS.out.rd)).mono ?_
                  rintro e w' ⟨rfl, rfl⟩
                  go_wp2_with fail
                  refine mixQ3_normal (KeepsBut.refl _ _) rfl ?_
                  repeat ((first | (refine mix3_free (v := ?_) rfl rfl ?_ (mix3_norm (a' := ?_) ?_ ?_); rotate_left; focus (intro w'; go_simp; first | done | (with_reducible rfl))) | (refine mix3_pure (v := ?_) rfl rfl ?_ (mix3_norm (a' := ?_) ?_ ?_); rotate_left; focus (intro w' hR; go_simp; first | done | (with_reducible rfl))) | refine mix3_freeOff rfl rfl (mix3_norm (a' := ?_) ?_ ?_) | refine mix3_off rfl rfl (mix3_norm (a' := ?_) ?_ ?_)); rotate_left; focus (simp only [Act.put, List.getElem_toArray, List.getElem_cons_zero, List.getElem_cons_succ, List.setIfInBounds_toArray, List.set_cons_zero, List.set_cons_succ]; rfl))
                  clear d0 d1 d2 d3 d4 d5 d6 d7 d8 d9 d10 bx
                  refine mix3_eff rfl ?_
                  simp only [List.getElem_toArray, List.getElem_cons_zero, List.getElem_cons_succ]
                  go_wp2_with fail
                  refine mixQ3_last (by decide) rfl ?_
                  repeat ((first | (refine mix3_free (v := ?_) rfl rfl ?_ (mix3_norm (a' := ?_) ?_ ?_); rotate_left; focus (intro w'; go_simp; first | done | (with_reducible rfl))) | (refine mix3_pure (v := ?_) rfl rfl ?_ (mix3_norm (a' := ?_) ?_ ?_); rotate_left; focus (intro w' hR; go_simp; first | done | (with_reducible rfl))) | refine mix3_freeOff rfl rfl (mix3_norm (a' := ?_) ?_ ?_) | refine mix3_off rfl rfl (mix3_norm (a' := ?_) ?_ ?_)); rotate_left; focus (simp only [Act.put, List.getElem_toArray, List.getElem_cons_zero, List.getElem_cons_succ, List.setIfInBounds_toArray, List.set_cons_zero, List.set_cons_succ]; rfl))
                  refine mix3_done ?_
                  go_wp2_with fail
                  rw [jump_ret]
                  obtain ⟨u1, u2⟩ := set11 H2.out (mk11 _ _ _ _ _ _ _ _ _ _ _) _ _ _ _ _ _ _ _ _ _ _
                  refine bodyPost_ret (results_cell_tmp_row rfl _ _ w.heap.size _ _ _ _ rfl u1 Try.underlying58 rfl (by kernel_rfl)) rfl ⟨none, 0, ?_, ?_⟩
                  · rw [HX.out]; unfold okS; rw [hz]; rfl
                  · rw [HX.out]; exact HS.out.fin u2
                case false =>
                  refine wp_region_mix3 (KeepsBut []) (KeepsBut.refl []) (KeepsBut.trans []) [9] [(1, 0), (1, 1), (2, 2), (0, 3), (0, 4), (1, 5), (2, 6), (0, 7), (0, 8), (2, 9), (0, 10)] (by kernel_rfl) (by kernel_rfl) (fun d _ _ _ _ h => by cases d <;> exact h) ?_
                  generalize w6.drew = wd at HS H2 bx d0 d1 d2 d3 d4 d5 d6 d7 d8 d9 d10 y0 y1 y2 y3 y4 y5 y6 y7 y8 y9 y10 z0 z1 z2 z3 z4 z5 z6 z7 z8 z9 z10 ⊢
                  repeat ((first | (refine mix3_free (v := ?_) rfl rfl ?_ (mix3_norm (a' := ?_) ?_ ?_); rotate_left; focus (intro w'; go_simp; first | done | (with_reducible rfl))) | (refine mix3_pure (v := ?_) rfl rfl ?_ (mix3_norm (a' := ?_) ?_ ?_); rotate_left; focus (intro w' hR; go_simp; first | done | (with_reducible rfl))) | refine mix3_freeOff rfl rfl (mix3_norm (a' := ?_) ?_ ?_) | refine mix3_off rfl rfl (mix3_norm (a' := ?_) ?_ ?_)); rotate_left; focus (simp only [Act.put, List.getElem_toArray, List.getElem_cons_zero, List.getElem_cons_succ, List.setIfInBounds_toArray, List.set_cons_zero, List.set_cons_succ]; rfl))
                  refine mix3_eff rfl ?_
                  simp only [List.getElem_toArray, List.getElem_cons_zero, List.getElem_cons_succ]
                  go_wp2_with fail
                  refine (why_any g sf.1 sf.2 _ (IsRB.isR HS.out.rd)).mono ?_
                  rintro e w' ⟨rfl, rfl⟩
                  go_wp2_with fail
                  refine mixQ3_normal (KeepsBut.refl _ _) rfl ?_
                  repeat ((first | (refine mix3_free (v := ?_) rfl rfl ?_ (mix3_norm (a' := ?_) ?_ ?_); rotate_left; focus (intro w'; go_simp; first | done | (with_reducible rfl))) | (refine mix3_pure (v := ?_) rfl rfl ?_ (mix3_norm (a' := ?_) ?_ ?_); rotate_left; focus (intro w' hR; go_simp; first | done | (with_reducible rfl))) | refine mix3_freeOff rfl rfl (mix3_norm (a' := ?_) ?_ ?_) | refine mix3_off rfl rfl (mix3_norm (a' := ?_) ?_ ?_)); rotate_left; focus (simp only [Act.put, List.getElem_toArray, List.getElem_cons_zero, List.getElem_cons_succ, List.setIfInBounds_toArray, List.set_cons_zero, List.set_cons_succ]; rfl))
                  refine mix3_skip (KeepsBut.refl []) rfl rfl (mix3_norm (a' := ?_) ?_ ?_)
                  rotate_left
                  focus (simp only [Act.put, List.getElem_toArray, List.getElem_cons_zero, List.getElem_cons_succ, List.setIfInBounds_toArray, List.set_cons_zero, List.set_cons_succ]; rfl)
                  repeat ((first | (refine mix3_free (v := ?_) rfl rfl ?_ (mix3_norm (a' := ?_) ?_ ?_); rotate_left; focus (intro w'; go_simp; first | done | (with_reducible rfl))) | (refine mix3_pure (v := ?_) rfl rfl ?_ (mix3_norm (a' := ?_) ?_ ?_); rotate_left; focus (intro w' hR; go_simp; first | done | (with_reducible rfl))) | refine mix3_freeOff rfl rfl (mix3_norm (a' := ?_) ?_ ?_) | refine mix3_off rfl rfl (mix3_norm (a' := ?_) ?_ ?_)); rotate_left; focus (simp only [Act.put, List.getElem_toArray, List.getElem_cons_zero, List.getElem_cons_succ, List.setIfInBounds_toArray, List.set_cons_zero, List.set_cons_succ]; rfl))
                  clear d0 d1 d2 d3 d4 d5 d6 d7 d8 d9 d10 bx
                  refine mix3_eff rfl ?_
                  simp only [List.getElem_toArray, List.getElem_cons_zero, List.getElem_cons_succ]
                  go_wp2_with fail
                  refine mixQ3_last (by decide) rfl ?_
                  repeat ((first | (refine mix3_free (v := ?_) rfl rfl ?_ (mix3_norm (a' := ?_) ?_ ?_); rotate_left; focus (intro w'; go_simp; first | done | (with_reducible rfl))) | (refine mix3_pure (v := ?_) rfl rfl ?_ (mix3_norm (a' := ?_) ?_ ?_); rotate_left; focus (intro w' hR; go_simp; first | done | (with_reducible rfl))) | refine mix3_freeOff rfl rfl (mix3_norm (a' := ?_) ?_ ?_) | refine mix3_off rfl rfl (mix3_norm (a' := ?_) ?_ ?_)); rotate_left; focus (simp only [Act.put, List.getElem_toArray, List.getElem_cons_zero, List.getElem_cons_succ, List.setIfInBounds_toArray, List.set_cons_zero, List.set_cons_succ]; rfl))
                  refine mix3_done ?_
                  go_wp2_with fail
                  rw [jump_ret]
                  obtain ⟨u1, u2⟩ := set11 H2.out (mk11 _ _ _ _ _ _ _ _ _ _ _) _ _ _ _ _ _ _ _ _ _ _
                  refine bodyPost_ret (results_cell_tmp_row rfl _ _ w.heap.size _ _ _ _ rfl u1 Try.underlying58 rfl (by kernel_rfl)) rfl ⟨none, 0, ?_, ?_⟩
                  · rw [HX.out]; unfold okS; rw [hz]; rfl
                  · rw [HX.out]; exact HS.out.fin u2
end Go.Proofs.Ytebcginnnjigjaa
