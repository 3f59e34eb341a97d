import Derived.Test.YtebcginnnjigjaaC29
section
/- The partition: walked. -/
open Go.RowKit
namespace Go.Proofs.Ytebcginnnjigjaa
set_option maxHeartbeats 16000000 in
set_option maxRecDepth 100000 in
theorem partOrd_any (W : World) (b c : Nat) (d : Array Int) (a e pv : Nat) (h : ARow W b c d) (hpa : a ≤ pv) (hpe : pv < e) (he : e ≤ d.size) (hn : d.size ≤ 1000) :
    Calls Try.prog 90 #[.slice (some ⟨b, 0, none⟩) d.size c, .int .i64 (a : Nat), .int .i64 (e : Nat), .int .i64 (pv : Nat)] W fun r W' =>
      (∃ ap : Bool, r = .returned (.tuple #[.int .i64 ((Sort.partition Sort.ltInt d a e pv).1 : Nat), .bool ap])) ∧ SrtOut W W' b c (Sort.partition Sort.ltInt d a e pv).2.2 := by
  have HR := Lib.hid (show SrtOut W W b c d from ⟨h, Chg.refl _ _⟩)
  obtain ⟨n, hnd⟩ : ∃ n, d.size = n := ⟨_, rfl⟩
  rw [hnd] at he hn ⊢
  have Hs := Lib.hid hnd
  obtain ⟨e0, he0⟩ : ∃ e0, e = e0 + 1 := ⟨e - 1, by omega⟩
  subst he0
  rw [show ((e0 + 1 : Nat) : Int) = (e0 : Int) + 1 by push_cast; rfl]
  have hp1 := Sort.partition_fst (lt := Sort.ltInt) d a (e0 + 1) pv
  have hp2 := Sort.partition_arr (lt := Sort.ltInt) d a (e0 + 1) pv
  rw [show e0 + 1 - 1 = e0 from rfl] at hp1 hp2
  rw [hp1, hp2]
  clear hp1 hp2
  obtain ⟨tg, htg⟩ : ∃ tg, Sort.partLoop Sort.ltInt a (a + 1) e0 (Sort.swp d a pv) = tg := ⟨_, rfl⟩
  rw [htg]
  have HP := Lib.hid htg
  clear htg
  have han : (a : Int) < (n : Int) := by omega
  have hpn : (pv : Int) < (n : Int) := by omega
  have he01 : e0 ≤ 1000 := by omega
  clear h hnd
  have his : a < d.size := by have := Hs.out; omega
  have los : pv < d.size := by have := Hs.out; omega
  have s0 := HR.out.1.cell his
  have t0 := HR.out.1.cell los
  have Hsw := Lib.hid (fun W' (h : ARow W' b c d) => h.swp a pv)
  obtain ⟨x, hx⟩ : ∃ x, d[a]! = x := ⟨_, rfl⟩
  obtain ⟨y, hy⟩ : ∃ y, d[pv]! = y := ⟨_, rfl⟩
  rw [hx] at s0 Hsw
  rw [hy] at t0 Hsw
  have S0 := Lib.hid s0
  have T0 := Lib.hid t0
  clear hx hy
  go_enter Try.func90, Try.ntmps90
  apply wp_seq_k
  intro Ka hKa
  have HKa := Lib.hid hKa
  clear hKa
  go_wp2_with fail
  refine HKa.out _ _ ?_
  clear HKa
  apply wp_seq_k
  intro Kb hKb
  have HKb := Lib.hid hKb
  clear hKb
  go_wp2_with fail
  have s0 := S0.out
  have t0 := T0.out
  have p0 := fun w' (hk : KeepsBut [] W.drew w') => hk.cell (p := ⟨b, a, none⟩) s0 (by simp)
  have p1 := fun w' (hk : KeepsBut [] W.drew w') => hk.cell (p := ⟨b, pv, none⟩) t0 (by simp)
  have HA := HR.out.1.drew
  have HR1 := Lib.hid (show SrtOut W ((W.drew.setCell ⟨b, a, none⟩ (.int .u64 y)).setCell ⟨b, pv, none⟩ (.int .u64 x)) b c (Sort.swp d a pv) from ⟨Hsw.out _ HA, HR.out.2.drew.trans (chg_swp W.drew b a pv (.int .u64 y) (.int .u64 x)) (fun _ _ h => h)⟩)
  have f0 := HA.frozen a
  have f1 := (HA.set a y).frozen pv
  have c0 : W.drew.cell? ⟨b, a, none⟩ = some (.int .u64 x) := s0
  obtain ⟨u1, c1⟩ : ∃ u1, (W.drew.setCell ⟨b, a, none⟩ (.int .u64 y)).cell? ⟨b, pv, none⟩ = some u1 := ⟨_, (HA.set a y).cell (by rw [Array.size_setIfInBounds]; exact los)⟩
  clear s0 t0 HA
  refine wp_region_mix3 (KeepsBut []) (KeepsBut.refl []) (KeepsBut.trans []) [13, 15] [(0, 0), (0, 1), (0, 2), (0, 3), (0, 4), (0, 5), (0, 6), (0, 8), (0, 9), (0, 10), (1, 7), (1, 11), (0, 12), (2, 13), (0, 14), (2, 15)] (by kernel_rfl) (by kernel_rfl) (fun d _ _ _ _ h => by cases d <;> exact h) ?_
  generalize W.drew = w3 at p0 p1 HR1 f0 f1 c0 c1 ⊢
  repeat ((first | (refine mix3_free (v := ?_) rfl rfl ?_ (mix3_norm (a' := ?_) ?_ ?_); rotate_left; focus (intro w'; go_simp; first | done | (with_reducible rfl))) | (refine mix3_pure (v := ?_) rfl rfl ?_ (mix3_norm (a' := ?_) ?_ ?_); rotate_left; focus (intro w' hR; go_simp; first | done | (with_reducible rfl))) | refine mix3_freeOff rfl rfl (mix3_norm (a' := ?_) ?_ ?_) | refine mix3_off rfl rfl (mix3_norm (a' := ?_) ?_ ?_)); rotate_left; focus (simp only [Act.put, List.getElem_toArray, List.getElem_cons_zero, List.getElem_cons_succ, List.setIfInBounds_toArray, List.set_cons_zero, List.set_cons_succ]; rfl))
  refine mix3_eff rfl ?_
  simp only [List.getElem_toArray, List.getElem_cons_zero, List.getElem_cons_succ]
  go_wp2_with fail
  refine mixQ3_last (by simp) rfl ?_
  repeat ((first | (refine mix3_free (v := ?_) rfl rfl ?_ (mix3_norm (a' := ?_) ?_ ?_); rotate_left; focus (intro w'; go_simp; first | done | (with_reducible rfl))) | (refine mix3_pure (v := ?_) rfl rfl ?_ (mix3_norm (a' := ?_) ?_ ?_); rotate_left; focus (intro w' hR; go_simp; first | done | (with_reducible rfl))) | refine mix3_freeOff rfl rfl (mix3_norm (a' := ?_) ?_ ?_) | refine mix3_off rfl rfl (mix3_norm (a' := ?_) ?_ ?_)); rotate_left; focus (simp only [Act.put, List.getElem_toArray, List.getElem_cons_zero, List.getElem_cons_succ, List.setIfInBounds_toArray, List.set_cons_zero, List.set_cons_succ]; rfl))
  refine mix3_eff rfl ?_
  simp only [List.getElem_toArray, List.getElem_cons_zero, List.getElem_cons_succ]
  go_wp2_with fail
  refine mixQ3_last (by simp) rfl ?_
  refine mix3_done ?_
  clear p0 p1 f0 f1 c0 c1
  generalize (w3.setCell ⟨b, a, none⟩ (.int .u64 y)).setCell ⟨b, pv, none⟩ (.int .u64 x) = w3' at HR1 ⊢
  have Hs1 := Lib.hid (show (Sort.swp d a pv).size = n by rw [Sort.size_swp]; exact Hs.out)
  generalize Sort.swp d a pv = d1 at HR1 HP Hs1
  clear HR Hsw S0 T0 Hs hpn
  have hi2 : a + 1 ≤ e0 + 1 := by omega
  have hj1 : a ≤ e0 := by omega
  have HE := HP
  go_wp2_with fail
  refine HKb.out _ _ ?_
  clear HKb
  apply wp_seq_k
  intro Kc hKc
  have HKc := Lib.hid hKc
  clear hKc
  go_wp2_with fail
  refine HKc.out _ _ ?_
  clear HKc
  apply wp_seq_k
  intro K1 hK1
  have HK1 := Lib.hid hK1
  clear hK1
  have HJ1 : Hid (∀ (k : Nat) (u12 u13 u14 u15 u16 u17 u18 u19 u20 u21 u22 u23 u24 u25 u26 u27 u28 u29 u30 u31 u32 u33 u34 u35 u36 u37 u38 u39 u40 u41 u42 u43 u44 u45 u46 u47 u48 u49 u50 u51 u52 u53 u54 u55 u56 u57 u58 u59 u60 u61 u62 u63 u64 u65 u66 u67 u68 u69 u70 u71 u72 u73 u74 u75 u76 u77 u78 u79 u80 u81 u82 u83 u84 u85 u86 u87 u88 u89 u90 u91 u92 u93 u94 u95 u96 u97 u98 u99 u100 u101 u102 u103 u104 u105 u106 u107 u108 u109 u110 u111 u112 u113 u114 u115 u116 u117 u118 u119 u120 u121 u122 u123 u124 u125 u126 u127 u128 u129 u130 u131 u132 u133 u134 u135 u136 u137 u138 u139 u140 u141 u142 u143 u144 u145 u146 u147 u148 u149 u150 u151 u152 u153 u154 u155 u156 u157 u158 u159 u160 u161 u162 u163 u164 u165 u166 u167 : Value) (w2 : World), (a + 1) ≤ k → k ≤ e0 + 1 → SrtOut W w2 b c d1 → Sort.scanUp (fun x => Sort.ltInt x d1[a]!) d1 e0 (a + 1) = k → K1 ({ tmps := #[.slice (some ⟨b, 0, none⟩) n c, .int .i64 (a : Nat), .int .i64 ((e0 : Int) + 1), .int .i64 (pv : Nat), undef, undef, undef, undef, .int .i64 0, .bool false, .int .i64 (k : Nat), .int .i64 (e0 : Nat), u12, u13, u14, u15, u16, u17, u18, u19, u20, u21, u22, u23, u24, u25, u26, u27, u28, u29, u30, u31, u32, u33, u34, u35, u36, u37, u38, u39, u40, u41, u42, u43, u44, u45, u46, u47, u48, u49, u50, u51, u52, u53, u54, u55, u56, u57, u58, u59, u60, u61, u62, u63, u64, u65, u66, u67, u68, u69, u70, u71, u72, u73, u74, u75, u76, u77, u78, u79, u80, u81, u82, u83, u84, u85, u86, u87, u88, u89, u90, u91, u92, u93, u94, u95, u96, u97, u98, u99, u100, u101, u102, u103, u104, u105, u106, u107, u108, u109, u110, u111, u112, u113, u114, u115, u116, u117, u118, u119, u120, u121, u122, u123, u124, u125, u126, u127, u128, u129, u130, u131, u132, u133, u134, u135, u136, u137, u138, u139, u140, u141, u142, u143, u144, u145, u146, u147, u148, u149, u150, u151, u152, u153, u154, u155, u156, u157, u158, u159, u160, u161, u162, u163, u164, u165, u166, u167], defers := [] } : Act) w2) := by
    refine Lib.hid ?_
    intro k u12 u13 u14 u15 u16 u17 u18 u19 u20 u21 u22 u23 u24 u25 u26 u27 u28 u29 u30 u31 u32 u33 u34 u35 u36 u37 u38 u39 u40 u41 u42 u43 u44 u45 u46 u47 u48 u49 u50 u51 u52 u53 u54 u55 u56 u57 u58 u59 u60 u61 u62 u63 u64 u65 u66 u67 u68 u69 u70 u71 u72 u73 u74 u75 u76 u77 u78 u79 u80 u81 u82 u83 u84 u85 u86 u87 u88 u89 u90 u91 u92 u93 u94 u95 u96 u97 u98 u99 u100 u101 u102 u103 u104 u105 u106 u107 u108 u109 u110 u111 u112 u113 u114 u115 u116 u117 u118 u119 u120 u121 u122 u123 u124 u125 u126 u127 u128 u129 u130 u131 u132 u133 u134 u135 u136 u137 u138 u139 u140 u141 u142 u143 u144 u145 u146 u147 u148 u149 u150 u151 u152 u153 u154 u155 u156 u157 u158 u159 u160 u161 u162 u163 u164 u165 u166 u167 w2 hk1 hk2 h0 hk0
    have HR2 := Lib.hid h0
    have HK := Lib.hid hk0
    clear h0 hk0
    have hk1000 : k ≤ 1001 := by omega
    refine HK1.out _ _ ?_
    clear HK1 HR1
    apply wp_seq_k
    intro K2 hK2
    have HK2 := Lib.hid hK2
    clear hK2
    have HJ2 : Hid (∀ (l : Nat) (u12 u13 u14 u15 u16 u17 u18 u19 u20 u21 u22 u23 u24 u25 u26 u27 u28 u29 u30 u31 u32 u33 u34 u35 u36 u37 u38 u39 u40 u41 u42 u43 u44 u45 u46 u47 u48 u49 u50 u51 u52 u53 u54 u55 u56 u57 u58 u59 u60 u61 u62 u63 u64 u65 u66 u67 u68 u69 u70 u71 u72 u73 u74 u75 u76 u77 u78 u79 u80 u81 u82 u83 u84 u85 u86 u87 u88 u89 u90 u91 u92 u93 u94 u95 u96 u97 u98 u99 u100 u101 u102 u103 u104 u105 u106 u107 u108 u109 u110 u111 u112 u113 u114 u115 u116 u117 u118 u119 u120 u121 u122 u123 u124 u125 u126 u127 u128 u129 u130 u131 u132 u133 u134 u135 u136 u137 u138 u139 u140 u141 u142 u143 u144 u145 u146 u147 u148 u149 u150 u151 u152 u153 u154 u155 u156 u157 u158 u159 u160 u161 u162 u163 u164 u165 u166 u167 : Value) (w5 : World), a ≤ l → l ≤ e0 → SrtOut W w5 b c d1 → Sort.scanDown (fun x => !Sort.ltInt x d1[a]!) d1 k e0 = l → K2 ({ tmps := #[.slice (some ⟨b, 0, none⟩) n c, .int .i64 (a : Nat), .int .i64 ((e0 : Int) + 1), .int .i64 (pv : Nat), undef, undef, undef, undef, .int .i64 0, .bool false, .int .i64 (k : Nat), .int .i64 (l : Nat), u12, u13, u14, u15, u16, u17, u18, u19, u20, u21, u22, u23, u24, u25, u26, u27, u28, u29, u30, u31, u32, u33, u34, u35, u36, u37, u38, u39, u40, u41, u42, u43, u44, u45, u46, u47, u48, u49, u50, u51, u52, u53, u54, u55, u56, u57, u58, u59, u60, u61, u62, u63, u64, u65, u66, u67, u68, u69, u70, u71, u72, u73, u74, u75, u76, u77, u78, u79, u80, u81, u82, u83, u84, u85, u86, u87, u88, u89, u90, u91, u92, u93, u94, u95, u96, u97, u98, u99, u100, u101, u102, u103, u104, u105, u106, u107, u108, u109, u110, u111, u112, u113, u114, u115, u116, u117, u118, u119, u120, u121, u122, u123, u124, u125, u126, u127, u128, u129, u130, u131, u132, u133, u134, u135, u136, u137, u138, u139, u140, u141, u142, u143, u144, u145, u146, u147, u148, u149, u150, u151, u152, u153, u154, u155, u156, u157, u158, u159, u160, u161, u162, u163, u164, u165, u166, u167], defers := [] } : Act) w5) := by
      refine Lib.hid ?_
      intro l u12 u13 u14 u15 u16 u17 u18 u19 u20 u21 u22 u23 u24 u25 u26 u27 u28 u29 u30 u31 u32 u33 u34 u35 u36 u37 u38 u39 u40 u41 u42 u43 u44 u45 u46 u47 u48 u49 u50 u51 u52 u53 u54 u55 u56 u57 u58 u59 u60 u61 u62 u63 u64 u65 u66 u67 u68 u69 u70 u71 u72 u73 u74 u75 u76 u77 u78 u79 u80 u81 u82 u83 u84 u85 u86 u87 u88 u89 u90 u91 u92 u93 u94 u95 u96 u97 u98 u99 u100 u101 u102 u103 u104 u105 u106 u107 u108 u109 u110 u111 u112 u113 u114 u115 u116 u117 u118 u119 u120 u121 u122 u123 u124 u125 u126 u127 u128 u129 u130 u131 u132 u133 u134 u135 u136 u137 u138 u139 u140 u141 u142 u143 u144 u145 u146 u147 u148 u149 u150 u151 u152 u153 u154 u155 u156 u157 u158 u159 u160 u161 u162 u163 u164 u165 u166 u167 w5 hl1 hl2 h0 hl0
      have HR5 := Lib.hid h0
      have hX := HE.out
      rw [Sort.partLoop_eq, HK.out, hl0] at hX
      refine HK2.out _ _ ?_
      clear HK2 HR2 h0 hl0
      have hl1000 : l ≤ 1000 := by omega
      have hln : (l : Int) < (n : Int) := by omega
      by_cases hkl : k ≤ l
      · obtain ⟨l0, hl0⟩ : ∃ l0, l = l0 + 1 := ⟨l - 1, by omega⟩
        rw [if_neg (by omega), show l - 1 = l0 by omega] at hX
        have Hl0 := Lib.hid hl0
        have hkn2 : (k : Int) < (n : Int) := by omega
        have hwl : (l : Int) - 1 = (l0 : Int) := by omega
        have HX := Lib.hid hX
        have hgt : ¬ (l : Int) < (k : Int) := by omega
        clear hX hl0
        apply wp_seq_k
        intro K7 hK7
        have HK7 := Lib.hid hK7
        clear hK7
        go_wp2_with fail
        refine HK7.out _ _ ?_
        clear HK7
        apply wp_seq_k
        intro K10 hK10
        have HK10 := Lib.hid hK10
        clear hK10
        go_wp2_with fail
        have his : k < d1.size := by have := Hs1.out; omega
        have los : l < d1.size := by have := Hs1.out; omega
        have s0 := HR5.out.1.cell his
        have t0 := HR5.out.1.cell los
        have Hsw := Lib.hid (fun W' (h : ARow W' b c d1) => h.swp k l)
        obtain ⟨x3, hx⟩ : ∃ x, d1[k]! = x := ⟨_, rfl⟩
        obtain ⟨y3, hy⟩ : ∃ y, d1[l]! = y := ⟨_, rfl⟩
        rw [hx] at s0 Hsw
        rw [hy] at t0 Hsw
        have S0 := Lib.hid s0
        have T0 := Lib.hid t0
        clear hx hy s0 t0
        have s0 := S0.out
        have t0 := T0.out
        have p0 := fun w' (hk : KeepsBut [] w5.drew w') => hk.cell (p := ⟨b, k, none⟩) s0 (by simp)
        have p1 := fun w' (hk : KeepsBut [] w5.drew w') => hk.cell (p := ⟨b, l, none⟩) t0 (by simp)
        have HA := HR5.out.1.drew
        have HR6 := Lib.hid (show SrtOut W ((w5.drew.setCell ⟨b, k, none⟩ (.int .u64 y3)).setCell ⟨b, l, none⟩ (.int .u64 x3)) b c (Sort.swp d1 k l) from ⟨Hsw.out _ HA, HR5.out.2.drew.trans (chg_swp w5.drew b k l (.int .u64 y3) (.int .u64 x3)) (fun _ _ h => h)⟩)
        have f0 := HA.frozen k
        have f1 := (HA.set k y3).frozen l
        have c0 : w5.drew.cell? ⟨b, k, none⟩ = some (.int .u64 x3) := s0
        obtain ⟨u1, c1⟩ : ∃ u1, (w5.drew.setCell ⟨b, k, none⟩ (.int .u64 y3)).cell? ⟨b, l, none⟩ = some u1 := ⟨_, (HA.set k y3).cell (by rw [Array.size_setIfInBounds]; exact los)⟩
        clear s0 t0 HA
        refine wp_region_mix3 (KeepsBut []) (KeepsBut.refl []) (KeepsBut.trans []) [13, 15] [(0, 0), (0, 1), (0, 2), (0, 3), (0, 4), (0, 5), (0, 6), (0, 8), (0, 9), (0, 10), (1, 7), (1, 11), (0, 12), (2, 13), (0, 14), (2, 15)] (by kernel_rfl) (by kernel_rfl) (fun d _ _ _ _ h => by cases d <;> exact h) ?_
        generalize w5.drew = w6 at p0 p1 HR6 f0 f1 c0 c1 ⊢
        repeat ((first | (refine mix3_free (v := ?_) rfl rfl ?_ (mix3_norm (a' := ?_) ?_ ?_); rotate_left; focus (intro w'; go_simp; first | done | (with_reducible rfl))) | (refine mix3_pure (v := ?_) rfl rfl ?_ (mix3_norm (a' := ?_) ?_ ?_); rotate_left; focus (intro w' hR; go_simp; first | done | (with_reducible rfl))) | refine mix3_freeOff rfl rfl (mix3_norm (a' := ?_) ?_ ?_) | refine mix3_off rfl rfl (mix3_norm (a' := ?_) ?_ ?_)); rotate_left; focus (simp only [Act.put, List.getElem_toArray, List.getElem_cons_zero, List.getElem_cons_succ, List.setIfInBounds_toArray, List.set_cons_zero, List.set_cons_succ]; rfl))
        refine mix3_eff rfl ?_
        simp only [List.getElem_toArray, List.getElem_cons_zero, List.getElem_cons_succ]
        go_wp2_with fail
        refine mixQ3_last (by simp) rfl ?_
        repeat ((first | (refine mix3_free (v := ?_) rfl rfl ?_ (mix3_norm (a' := ?_) ?_ ?_); rotate_left; focus (intro w'; go_simp; first | done | (with_reducible rfl))) | (refine mix3_pure (v := ?_) rfl rfl ?_ (mix3_norm (a' := ?_) ?_ ?_); rotate_left; focus (intro w' hR; go_simp; first | done | (with_reducible rfl))) | refine mix3_freeOff rfl rfl (mix3_norm (a' := ?_) ?_ ?_) | refine mix3_off rfl rfl (mix3_norm (a' := ?_) ?_ ?_)); rotate_left; focus (simp only [Act.put, List.getElem_toArray, List.getElem_cons_zero, List.getElem_cons_succ, List.setIfInBounds_toArray, List.set_cons_zero, List.set_cons_succ]; rfl))
        refine mix3_eff rfl ?_
        simp only [List.getElem_toArray, List.getElem_cons_zero, List.getElem_cons_succ]
        go_wp2_with fail
        refine mixQ3_last (by simp) rfl ?_
        refine mix3_done ?_
        clear p0 p1 f0 f1 c0 c1
        generalize (w6.setCell ⟨b, k, none⟩ (.int .u64 y3)).setCell ⟨b, l, none⟩ (.int .u64 x3) = w6' at HR6 ⊢
        have HZ9 := Lib.hid (show (Sort.swp d1 k l).size = n by rw [Sort.size_swp]; exact Hs1.out)
        generalize Sort.swp d1 k l = d9 at HR6 HX HZ9
        clear Hsw S0 T0
        go_wp2_with fail
        refine HK10.out _ _ ?_
        clear HK10
        apply wp_seq_k
        intro K11 hK11
        have HK11 := Lib.hid hK11
        clear hK11
        go_wp2_with fail
        refine HK11.out _ _ ?_
        clear HK11
        apply wp_seq_k
        intro K12 hK12
        have HK12 := Lib.hid hK12
        clear hK12
        have HJ12 : Hid (∀ (v : Int) (i j : Nat) (d1 : Array Int) (u12 u13 u14 u15 u16 u17 u18 u19 u20 u21 u22 u23 u24 u25 u26 u27 u28 u29 u30 u31 u32 u33 u34 u35 u36 u37 u38 u39 u40 u41 u42 u43 u44 u45 u46 u47 u48 u49 u50 u51 u52 u53 u54 u55 u56 u57 u58 u59 u60 u61 u62 u63 u64 u65 u66 u67 u68 u69 u70 u71 u72 u73 u74 u75 u76 u77 u78 u79 u80 u81 u82 u83 u84 u85 u86 u87 u88 u89 u90 u91 u92 u93 u94 u95 u96 u97 u98 u99 u100 u101 u102 u103 u104 u105 u106 u107 u108 u109 u110 u111 u112 u113 u114 u115 u116 u117 u118 u119 u120 u121 u122 u123 u124 u125 u126 u127 u128 u129 u130 u131 u132 u133 u134 u135 u136 u137 u138 u139 u140 u141 u142 u143 u144 u145 u146 u147 u148 u149 u150 u151 u152 u153 u154 u155 u156 u157 u158 u159 u160 u161 u162 u163 u164 u165 u166 u167 : Value) (w : World), v = (i : Nat) → a + 1 ≤ i → i ≤ e0 + 1 → a ≤ j → j ≤ e0 → d1.size = n → SrtOut W w b c d1 → Sort.partLoop Sort.ltInt a i j d1 = tg → K12 ({ tmps := #[.slice (some ⟨b, 0, none⟩) n c, .int .i64 (a : Nat), .int .i64 ((e0 : Int) + 1), .int .i64 (pv : Nat), undef, undef, undef, undef, .int .i64 0, .bool false, .int .i64 v, .int .i64 (j : Nat), u12, u13, u14, u15, u16, u17, u18, u19, u20, u21, u22, u23, u24, u25, u26, u27, u28, u29, u30, u31, u32, u33, u34, u35, u36, u37, u38, u39, u40, u41, u42, u43, u44, u45, u46, u47, u48, u49, u50, u51, u52, u53, u54, u55, u56, u57, u58, u59, u60, u61, u62, u63, u64, u65, u66, u67, u68, u69, u70, u71, u72, u73, u74, u75, u76, u77, u78, u79, u80, u81, u82, u83, u84, u85, u86, u87, u88, u89, u90, u91, u92, u93, u94, u95, u96, u97, u98, u99, u100, u101, u102, u103, u104, u105, u106, u107, u108, u109, u110, u111, u112, u113, u114, u115, u116, u117, u118, u119, u120, u121, u122, u123, u124, u125, u126, u127, u128, u129, u130, u131, u132, u133, u134, u135, u136, u137, u138, u139, u140, u141, u142, u143, u144, u145, u146, u147, u148, u149, u150, u151, u152, u153, u154, u155, u156, u157, u158, u159, u160, u161, u162, u163, u164, u165, u166, u167], defers := [] } : Act) w) := by
          clear HR6 HX HZ9 HR5 HK HE Hs1 hln hkn2 hwl hl1 hl2 hl1000 hkl hgt hk1 hk2 hk1000 hi2 hj1 HP
          refine Lib.hid ?_
          intro v i j d1 u12 u13 u14 u15 u16 u17 u18 u19 u20 u21 u22 u23 u24 u25 u26 u27 u28 u29 u30 u31 u32 u33 u34 u35 u36 u37 u38 u39 u40 u41 u42 u43 u44 u45 u46 u47 u48 u49 u50 u51 u52 u53 u54 u55 u56 u57 u58 u59 u60 u61 u62 u63 u64 u65 u66 u67 u68 u69 u70 u71 u72 u73 u74 u75 u76 u77 u78 u79 u80 u81 u82 u83 u84 u85 u86 u87 u88 u89 u90 u91 u92 u93 u94 u95 u96 u97 u98 u99 u100 u101 u102 u103 u104 u105 u106 u107 u108 u109 u110 u111 u112 u113 u114 u115 u116 u117 u118 u119 u120 u121 u122 u123 u124 u125 u126 u127 u128 u129 u130 u131 u132 u133 u134 u135 u136 u137 u138 u139 u140 u141 u142 u143 u144 u145 u146 u147 u148 u149 u150 u151 u152 u153 u154 u155 u156 u157 u158 u159 u160 u161 u162 u163 u164 u165 u166 u167 w hv hi1 hi2 hj1 hj2 h1 h2 h3
          have Hs1 := Lib.hid h1
          have HR1 := Lib.hid h2
          have HE := Lib.hid h3
          clear h1 h2 h3
          subst hv
          refine HK12.out _ _ ?_
          clear HK12
          go_wp2_with fail
          go_loopw [10, 11] (fun v u wr => ∃ (i j : Nat) (d1 : Array Int), a + 1 ≤ i ∧ i ≤ e0 + 1 ∧ a ≤ j ∧ j ≤ e0 ∧ v = .int .i64 i ∧ u = .int .i64 j ∧ Hid (d1.size = n) ∧ Hid (SrtOut W wr b c d1) ∧ Hid (Sort.partLoop Sort.ltInt a i j d1 = tg)) (fun v u _ => (intOf u + 2000 - intOf v).toNat)
          case atStart => exact ⟨i, j, d1, hi1, hi2, hj1, hj2, rfl, rfl, Hs1, HR1, HE⟩
          case round =>
            clear HR1 HE Hs1 hi1 hi2 hj1 hj2
            obtain ⟨i, j, d1, hi1, hi2, hj1, hj2, rfl, rfl, Hs1, HR1, HE⟩ := hrel
            obtain ⟨wo, hwo⟩ : ∃ wo : World, wo = wr := ⟨_, rfl⟩
            subst hwo
            have hij0 : i ≤ 1001 ∧ j ≤ 1000 := by omega
            refine wp_block ?_
            apply wp_seq_k
            intro K1 hK1
            have HK1 := Lib.hid hK1
            clear hK1
            have HJ1 : Hid (∀ (k : Nat) (u99 u100 u101 u102 u103 u104 u105 u106 u107 u108 u109 u110 u111 u112 u113 u114 u115 u116 u117 u118 u119 u120 u121 u122 u123 u124 u125 u126 u127 u128 u129 u130 u131 u132 u133 u134 u135 u136 u137 u138 u139 u140 u141 u142 u143 u144 u145 u146 u147 u148 u149 u150 u151 u152 : Value) (w2 : World), i ≤ k → k ≤ e0 + 1 → SrtOut W w2 b c d1 → Sort.scanUp (fun x => Sort.ltInt x d1[a]!) d1 j i = k → K1 ({ tmps := #[.slice (some ⟨b, 0, none⟩) n c, .int .i64 (a : Nat), .int .i64 ((e0 : Int) + 1), .int .i64 (pv : Nat), undef, undef, undef, undef, .int .i64 0, .bool false, .int .i64 (k : Nat), .int .i64 (j : Nat), u12, u13, u14, u15, u16, u17, u18, u19, u20, u21, u22, u23, u24, u25, u26, u27, u28, u29, u30, u31, u32, u33, u34, u35, u36, u37, u38, u39, u40, u41, u42, u43, u44, u45, u46, u47, u48, u49, u50, u51, u52, u53, u54, u55, u56, u57, u58, u59, u60, u61, u62, u63, u64, u65, u66, u67, u68, u69, u70, u71, u72, u73, u74, u75, u76, u77, u78, u79, u80, u81, u82, u83, u84, u85, u86, u87, u88, u89, u90, u91, u92, u93, u94, u95, u96, u97, u98, u99, u100, u101, u102, u103, u104, u105, u106, u107, u108, u109, u110, u111, u112, u113, u114, u115, u116, u117, u118, u119, u120, u121, u122, u123, u124, u125, u126, u127, u128, u129, u130, u131, u132, u133, u134, u135, u136, u137, u138, u139, u140, u141, u142, u143, u144, u145, u146, u147, u148, u149, u150, u151, u152, u153, u154, u155, u156, u157, u158, u159, u160, u161, u162, u163, u164, u165, u166, u167], defers := [] } : Act) w2) := by
              refine Lib.hid ?_
              intro k u99 u100 u101 u102 u103 u104 u105 u106 u107 u108 u109 u110 u111 u112 u113 u114 u115 u116 u117 u118 u119 u120 u121 u122 u123 u124 u125 u126 u127 u128 u129 u130 u131 u132 u133 u134 u135 u136 u137 u138 u139 u140 u141 u142 u143 u144 u145 u146 u147 u148 u149 u150 u151 u152 w2 hk1 hk2 h0 hk0
              have HR2 := Lib.hid h0
              have HK := Lib.hid hk0
              clear h0 hk0
              have hk1000 : k ≤ 1001 := by omega
              refine HK1.out _ _ ?_
              clear HK1 HR1
              apply wp_seq_k
              intro K2 hK2
              have HK2 := Lib.hid hK2
              clear hK2
              have HJ2 : Hid (∀ (l : Nat) (u99 u100 u101 u102 u103 u104 u105 u106 u107 u108 u109 u110 u111 u112 u113 u114 u115 u116 u117 u118 u119 u120 u121 u122 u123 u124 u125 u126 u127 u128 u129 u130 u131 u132 u133 u134 u135 u136 u137 u138 u139 u140 u141 u142 u143 u144 u145 u146 u147 u148 u149 u150 u151 u152 : Value) (w5 : World), a ≤ l → l ≤ j → SrtOut W w5 b c d1 → Sort.scanDown (fun x => !Sort.ltInt x d1[a]!) d1 k j = l → K2 ({ tmps := #[.slice (some ⟨b, 0, none⟩) n c, .int .i64 (a : Nat), .int .i64 ((e0 : Int) + 1), .int .i64 (pv : Nat), undef, undef, undef, undef, .int .i64 0, .bool false, .int .i64 (k : Nat), .int .i64 (l : Nat), u12, u13, u14, u15, u16, u17, u18, u19, u20, u21, u22, u23, u24, u25, u26, u27, u28, u29, u30, u31, u32, u33, u34, u35, u36, u37, u38, u39, u40, u41, u42, u43, u44, u45, u46, u47, u48, u49, u50, u51, u52, u53, u54, u55, u56, u57, u58, u59, u60, u61, u62, u63, u64, u65, u66, u67, u68, u69, u70, u71, u72, u73, u74, u75, u76, u77, u78, u79, u80, u81, u82, u83, u84, u85, u86, u87, u88, u89, u90, u91, u92, u93, u94, u95, u96, u97, u98, u99, u100, u101, u102, u103, u104, u105, u106, u107, u108, u109, u110, u111, u112, u113, u114, u115, u116, u117, u118, u119, u120, u121, u122, u123, u124, u125, u126, u127, u128, u129, u130, u131, u132, u133, u134, u135, u136, u137, u138, u139, u140, u141, u142, u143, u144, u145, u146, u147, u148, u149, u150, u151, u152, u153, u154, u155, u156, u157, u158, u159, u160, u161, u162, u163, u164, u165, u166, u167], defers := [] } : Act) w5) := by
                refine Lib.hid ?_
                intro l u99 u100 u101 u102 u103 u104 u105 u106 u107 u108 u109 u110 u111 u112 u113 u114 u115 u116 u117 u118 u119 u120 u121 u122 u123 u124 u125 u126 u127 u128 u129 u130 u131 u132 u133 u134 u135 u136 u137 u138 u139 u140 u141 u142 u143 u144 u145 u146 u147 u148 u149 u150 u151 u152 w5 hl1 hl2 h0 hl0
                have HR5 := Lib.hid h0
                have hX := HE.out
                rw [Sort.partLoop_eq, HK.out, hl0] at hX
                refine HK2.out _ _ ?_
                clear HK2 HR2 h0 hl0
                have hl1000 : l ≤ 1000 := by omega
                have hln : (l : Int) < (n : Int) := by omega
                by_cases hkl : k ≤ l
                · obtain ⟨l0, hl0⟩ : ∃ l0, l = l0 + 1 := ⟨l - 1, by omega⟩
                  rw [if_neg (by omega), show l - 1 = l0 by omega] at hX
                  have Hl0 := Lib.hid hl0
                  have hkn2 : (k : Int) < (n : Int) := by omega
                  have hwl : (l : Int) - 1 = (l0 : Int) := by omega
                  have HX := Lib.hid hX
                  have hgt : ¬ (l : Int) < (k : Int) := by omega
                  clear hX hl0
                  go_wp2_with fail
                  have his : k < d1.size := by have := Hs1.out; omega
                  have los : l < d1.size := by have := Hs1.out; omega
                  have s0 := HR5.out.1.cell his
                  have t0 := HR5.out.1.cell los
                  have Hsw := Lib.hid (fun W' (h : ARow W' b c d1) => h.swp k l)
                  obtain ⟨x3, hx⟩ : ∃ x, d1[k]! = x := ⟨_, rfl⟩
                  obtain ⟨y3, hy⟩ : ∃ y, d1[l]! = y := ⟨_, rfl⟩
                  rw [hx] at s0 Hsw
                  rw [hy] at t0 Hsw
                  have S0 := Lib.hid s0
                  have T0 := Lib.hid t0
                  clear hx hy s0 t0
                  have s0 := S0.out
                  have t0 := T0.out
                  have p0 := fun w' (hk : KeepsBut [] w5.drew w') => hk.cell (p := ⟨b, k, none⟩) s0 (by simp)
                  have p1 := fun w' (hk : KeepsBut [] w5.drew w') => hk.cell (p := ⟨b, l, none⟩) t0 (by simp)
                  have HA := HR5.out.1.drew
                  have HR6 := Lib.hid (show SrtOut W ((w5.drew.setCell ⟨b, k, none⟩ (.int .u64 y3)).setCell ⟨b, l, none⟩ (.int .u64 x3)) b c (Sort.swp d1 k l) from ⟨Hsw.out _ HA, HR5.out.2.drew.trans (chg_swp w5.drew b k l (.int .u64 y3) (.int .u64 x3)) (fun _ _ h => h)⟩)
                  have f0 := HA.frozen k
                  have f1 := (HA.set k y3).frozen l
                  have c0 : w5.drew.cell? ⟨b, k, none⟩ = some (.int .u64 x3) := s0
                  obtain ⟨u1, c1⟩ : ∃ u1, (w5.drew.setCell ⟨b, k, none⟩ (.int .u64 y3)).cell? ⟨b, l, none⟩ = some u1 := ⟨_, (HA.set k y3).cell (by rw [Array.size_setIfInBounds]; exact los)⟩
                  clear s0 t0 HA
                  refine wp_region_mix3 (KeepsBut []) (KeepsBut.refl []) (KeepsBut.trans []) [13, 15] [(0, 0), (0, 1), (0, 2), (0, 3), (0, 4), (0, 5), (0, 6), (0, 8), (0, 9), (0, 10), (1, 7), (1, 11), (0, 12), (2, 13), (0, 14), (2, 15)] (by kernel_rfl) (by kernel_rfl) (fun d _ _ _ _ h => by cases d <;> exact h) ?_
                  generalize w5.drew = w6 at p0 p1 HR6 f0 f1 c0 c1 ⊢
                  repeat ((first | (refine mix3_free (v := ?_) rfl rfl ?_ (mix3_norm (a' := ?_) ?_ ?_); rotate_left; focus (intro w'; go_simp; first | done | (with_reducible rfl))) | (refine mix3_pure (v := ?_) rfl rfl ?_ (mix3_norm (a' := ?_) ?_ ?_); rotate_left; focus (intro w' hR; go_simp; first | done | (with_reducible rfl))) | refine mix3_freeOff rfl rfl (mix3_norm (a' := ?_) ?_ ?_) | refine mix3_off rfl rfl (mix3_norm (a' := ?_) ?_ ?_)); rotate_left; focus (simp only [Act.put, List.getElem_toArray, List.getElem_cons_zero, List.getElem_cons_succ, List.setIfInBounds_toArray, List.set_cons_zero, List.set_cons_succ]; rfl))
                  refine mix3_eff rfl ?_
                  simp only [List.getElem_toArray, List.getElem_cons_zero, List.getElem_cons_succ]
                  go_wp2_with fail
                  refine mixQ3_last (by simp) rfl ?_
                  repeat ((first | (refine mix3_free (v := ?_) rfl rfl ?_ (mix3_norm (a' := ?_) ?_ ?_); rotate_left; focus (intro w'; go_simp; first | done | (with_reducible rfl))) | (refine mix3_pure (v := ?_) rfl rfl ?_ (mix3_norm (a' := ?_) ?_ ?_); rotate_left; focus (intro w' hR; go_simp; first | done | (with_reducible rfl))) | refine mix3_freeOff rfl rfl (mix3_norm (a' := ?_) ?_ ?_) | refine mix3_off rfl rfl (mix3_norm (a' := ?_) ?_ ?_)); rotate_left; focus (simp only [Act.put, List.getElem_toArray, List.getElem_cons_zero, List.getElem_cons_succ, List.setIfInBounds_toArray, List.set_cons_zero, List.set_cons_succ]; rfl))
                  refine mix3_eff rfl ?_
                  simp only [List.getElem_toArray, List.getElem_cons_zero, List.getElem_cons_succ]
                  go_wp2_with fail
                  refine mixQ3_last (by simp) rfl ?_
                  refine mix3_done ?_
                  clear p0 p1 f0 f1 c0 c1
                  generalize (w6.setCell ⟨b, k, none⟩ (.int .u64 y3)).setCell ⟨b, l, none⟩ (.int .u64 x3) = w6' at HR6 ⊢
                  have HZ9 := Lib.hid (show (Sort.swp d1 k l).size = n by rw [Sort.size_swp]; exact Hs1.out)
                  generalize Sort.swp d1 k l = d9 at HR6 HX HZ9
                  clear Hsw S0 T0
                  go_wp2_with fail
                  case roundEnd =>
                    have := Hl0.out
                    exact ⟨⟨k + 1, l0, d9, by omega, by omega, by omega, by omega, by push_cast; rfl, by first | rfl | (congr 1; omega), HZ9, HR6, HX⟩, by simp only [intOf]; omega⟩
                · have hgt : (l : Int) < (k : Int) := by omega
                  rw [if_pos (by omega)] at hX
                  have HX := Lib.hid hX
                  clear hX hkl
                  go_wp2_with fail
                  have his : l < d1.size := by have := Hs1.out; omega
                  have los : a < d1.size := by have := Hs1.out; omega
                  have s0 := HR5.out.1.cell his
                  have t0 := HR5.out.1.cell los
                  have Hsw := Lib.hid (fun W' (h : ARow W' b c d1) => h.swp l a)
                  obtain ⟨x4, hx⟩ : ∃ x, d1[l]! = x := ⟨_, rfl⟩
                  obtain ⟨y4, hy⟩ : ∃ y, d1[a]! = y := ⟨_, rfl⟩
                  rw [hx] at s0 Hsw
                  rw [hy] at t0 Hsw
                  have S0 := Lib.hid s0
                  have T0 := Lib.hid t0
                  clear hx hy s0 t0
                  have s0 := S0.out
                  have t0 := T0.out
                  have p0 := fun w' (hk : KeepsBut [] w5.drew w') => hk.cell (p := ⟨b, l, none⟩) s0 (by simp)
                  have p1 := fun w' (hk : KeepsBut [] w5.drew w') => hk.cell (p := ⟨b, a, none⟩) t0 (by simp)
                  have HA := HR5.out.1.drew
                  have HR8 := Lib.hid (show SrtOut W ((w5.drew.setCell ⟨b, l, none⟩ (.int .u64 y4)).setCell ⟨b, a, none⟩ (.int .u64 x4)) b c (Sort.swp d1 l a) from ⟨Hsw.out _ HA, HR5.out.2.drew.trans (chg_swp w5.drew b l a (.int .u64 y4) (.int .u64 x4)) (fun _ _ h => h)⟩)
                  have f0 := HA.frozen l
                  have f1 := (HA.set l y4).frozen a
                  have c0 : w5.drew.cell? ⟨b, l, none⟩ = some (.int .u64 x4) := s0
                  obtain ⟨u1, c1⟩ : ∃ u1, (w5.drew.setCell ⟨b, l, none⟩ (.int .u64 y4)).cell? ⟨b, a, none⟩ = some u1 := ⟨_, (HA.set l y4).cell (by rw [Array.size_setIfInBounds]; exact los)⟩
                  clear s0 t0 HA
                  refine wp_region_mix3 (KeepsBut []) (KeepsBut.refl []) (KeepsBut.trans []) [13, 15] [(0, 0), (0, 1), (0, 2), (0, 3), (0, 4), (0, 5), (0, 6), (0, 8), (0, 9), (0, 10), (1, 7), (1, 11), (0, 12), (2, 13), (0, 14), (2, 15)] (by kernel_rfl) (by kernel_rfl) (fun d _ _ _ _ h => by cases d <;> exact h) ?_
                  generalize w5.drew = w8 at p0 p1 HR8 f0 f1 c0 c1 ⊢
                  repeat ((first | (refine mix3_free (v := ?_) rfl rfl ?_ (mix3_norm (a' := ?_) ?_ ?_); rotate_left; focus (intro w'; go_simp; first | done | (with_reducible rfl))) | (refine mix3_pure (v := ?_) rfl rfl ?_ (mix3_norm (a' := ?_) ?_ ?_); rotate_left; focus (intro w' hR; go_simp; first | done | (with_reducible rfl))) | refine mix3_freeOff rfl rfl (mix3_norm (a' := ?_) ?_ ?_) | refine mix3_off rfl rfl (mix3_norm (a' := ?_) ?_ ?_)); rotate_left; focus (simp only [Act.put, List.getElem_toArray, List.getElem_cons_zero, List.getElem_cons_succ, List.setIfInBounds_toArray, List.set_cons_zero, List.set_cons_succ]; rfl))
                  refine mix3_eff rfl ?_
                  simp only [List.getElem_toArray, List.getElem_cons_zero, List.getElem_cons_succ]
                  go_wp2_with fail
                  refine mixQ3_last (by simp) rfl ?_
                  repeat ((first | (refine mix3_free (v := ?_) rfl rfl ?_ (mix3_norm (a' := ?_) ?_ ?_); rotate_left; focus (intro w'; go_simp; first | done | (with_reducible rfl))) | (refine mix3_pure (v := ?_) rfl rfl ?_ (mix3_norm (a' := ?_) ?_ ?_); rotate_left; focus (intro w' hR; go_simp; first | done | (with_reducible rfl))) | refine mix3_freeOff rfl rfl (mix3_norm (a' := ?_) ?_ ?_) | refine mix3_off rfl rfl (mix3_norm (a' := ?_) ?_ ?_)); rotate_left; focus (simp only [Act.put, List.getElem_toArray, List.getElem_cons_zero, List.getElem_cons_succ, List.setIfInBounds_toArray, List.set_cons_zero, List.set_cons_succ]; rfl))
                  refine mix3_eff rfl ?_
                  simp only [List.getElem_toArray, List.getElem_cons_zero, List.getElem_cons_succ]
                  go_wp2_with fail
                  refine mixQ3_last (by simp) rfl ?_
                  refine mix3_done ?_
                  clear p0 p1 f0 f1 c0 c1
                  generalize (w8.setCell ⟨b, l, none⟩ (.int .u64 y4)).setCell ⟨b, a, none⟩ (.int .u64 x4) = w8' at HR8 ⊢
                  clear Hsw S0 T0
                  go_wp2_with fail
                  try simp only [Exit.inBlock, Exit.then]
                  exact bodyPost_ret (results_tmp2 rfl _ _ _) rfl ⟨⟨false, by rw [← HX.out]; rfl⟩, by rw [← HX.out]; exact HR8.out⟩
              clear HK2 HE HK
              go_wp2_with fail
              go_loopw [11] (fun v wd => ∃ l : Nat, a ≤ l ∧ l ≤ j ∧ v = .int .i64 l ∧ Hid (SrtOut W wd b c d1) ∧ Hid (Sort.scanDown (fun x => !Sort.ltInt x d1[a]!) d1 k l = Sort.scanDown (fun x => !Sort.ltInt x d1[a]!) d1 k j)) (fun v _ => (intOf v).toNat)
              case atStart => exact ⟨j, hj1, Nat.le_refl _, rfl, HR2, Lib.hid rfl⟩
              case round =>
                clear HR2
                obtain ⟨l, hl1, hl2, rfl, HR2, HJ⟩ := hrel
                obtain ⟨wd, hwd⟩ : ∃ wd : World, wd = wr := ⟨_, rfl⟩
                subst hwd
                have hl1000 : l ≤ 1000 := by omega
                by_cases hkl : k ≤ l
                · obtain ⟨l0, hl0⟩ : ∃ l0, l = l0 + 1 := ⟨l - 1, by omega⟩
                  have Hl0 := Lib.hid hl0
                  have hln : (l : Int) < (n : Int) := by omega
                  have hkn2 : (k : Int) < (n : Int) := by omega
                  have hwl : (l : Int) - 1 = (l0 : Int) := by omega
                  have his : l < d1.size := by have := Hs1.out; omega
                  have los : a < d1.size := by have := Hs1.out; omega
                  have s0 := HR2.out.1.cell his
                  have t0 := HR2.out.1.cell los
                  have Hsw := Lib.hid (fun W' (h : ARow W' b c d1) => h.swp l a)
                  obtain ⟨x2, hx⟩ : ∃ x, d1[l]! = x := ⟨_, rfl⟩
                  obtain ⟨y2, hy⟩ : ∃ y, d1[a]! = y := ⟨_, rfl⟩
                  rw [hx] at s0 Hsw
                  rw [hy] at t0 Hsw
                  have S0 := Lib.hid s0
                  have T0 := Lib.hid t0
                  have Hsd := Lib.hid (show Sort.scanDown (fun x => !Sort.ltInt x d1[a]!) d1 k l = if decide (x2 < y2) then l else Sort.scanDown (fun x => !Sort.ltInt x d1[a]!) d1 k l0 from by
                    rw [hl0, Sort.scanDown, ← hl0, hx, hy]
                    by_cases h : x2 < y2 <;> simp [hkl, Sort.ltInt, h])
                  have hl := less_any x2 y2
                  clear hx hy S0 T0 Hsw hl0
                  go_wp2_with fail
                  have p0 := fun w' (hk : KeepsBut [] wd.drew w') => hk.cell (p := ⟨b, l, none⟩) s0 (by simp)
                  have p1 := fun w' (hk : KeepsBut [] wd.drew w') => hk.cell (p := ⟨b, a, none⟩) t0 (by simp)
                  have HR5 := Lib.hid (show SrtOut W wd.drew b c d1 from ⟨HR2.out.1.drew, HR2.out.2.drew⟩)
                  have S0 := Lib.hid (show wd.drew.cell? ⟨b, l, none⟩ = some (.int .u64 x2) from s0)
                  have T0 := Lib.hid (show wd.drew.cell? ⟨b, a, none⟩ = some (.int .u64 y2) from t0)
                  clear s0 t0
                  refine wp_region_mix3 (KeepsBut []) (KeepsBut.refl []) (KeepsBut.trans []) [] [(0, 0), (0, 1), (0, 2), (0, 3), (0, 4), (0, 5), (0, 6), (0, 8), (0, 9), (0, 10), (1, 7), (1, 11), (2, 12), (0, 13), (0, 14)] (by kernel_rfl) (by kernel_rfl) (fun d _ _ _ _ h => by cases d <;> exact h) ?_
                  generalize wd.drew = w5 at p0 p1 HR5 S0 T0 ⊢
                  repeat ((first | (refine mix3_free (v := ?_) rfl rfl ?_ (mix3_norm (a' := ?_) ?_ ?_); rotate_left; focus (intro w'; go_simp; first | done | (with_reducible rfl))) | (refine mix3_pure (v := ?_) rfl rfl ?_ (mix3_norm (a' := ?_) ?_ ?_); rotate_left; focus (intro w' hR; go_simp; first | done | (with_reducible rfl))) | refine mix3_freeOff rfl rfl (mix3_norm (a' := ?_) ?_ ?_) | refine mix3_off rfl rfl (mix3_norm (a' := ?_) ?_ ?_)); rotate_left; focus (simp only [Act.put, List.getElem_toArray, List.getElem_cons_zero, List.getElem_cons_succ, List.setIfInBounds_toArray, List.set_cons_zero, List.set_cons_succ]; rfl))
                  clear p0 p1
                  by_cases hxy : x2 < y2
                  · have hlt : Sort.ltInt x2 y2 = true := decide_eq_true hxy
                    rw [hlt] at hl
                    have hsd := Hsd.out
                    rw [if_pos (decide_eq_true hxy)] at hsd
                    have HL := Lib.hid (HJ.out.symm.trans hsd)
                    clear hsd Hsd HJ hxy S0 T0
                    refine mix3_eff rfl ?_
                    simp only [List.getElem_toArray, List.getElem_cons_zero, List.getElem_cons_succ]
                    go_wp2_with fail
                    refine (hl _).mono ?_
                    rintro r' w3 ⟨rfl, rfl⟩
                    go_wp2_with fail
                    refine mixQ3_normal (KeepsBut.refl _ _) rfl ?_
                    repeat ((first | (refine mix3_free (v := ?_) rfl rfl ?_ (mix3_norm (a' := ?_) ?_ ?_); rotate_left; focus (intro w'; go_simp; first | done | (with_reducible rfl))) | (refine mix3_pure (v := ?_) rfl rfl ?_ (mix3_norm (a' := ?_) ?_ ?_); rotate_left; focus (intro w' hR; go_simp; first | done | (with_reducible rfl))) | refine mix3_freeOff rfl rfl (mix3_norm (a' := ?_) ?_ ?_) | refine mix3_off rfl rfl (mix3_norm (a' := ?_) ?_ ?_)); rotate_left; focus (simp only [Act.put, List.getElem_toArray, List.getElem_cons_zero, List.getElem_cons_succ, List.setIfInBounds_toArray, List.set_cons_zero, List.set_cons_succ]; rfl))
                    refine mix3_done ?_
                    go_wp2_with fail
                    exact HJ2.out l _ _ _ _ _ _ _ _ _ _ _ _ _ _ _ _ _ _ _ _ _ _ _ _ _ _ _ _ _ _ _ _ _ _ _ _ _ _ _ _ _ _ _ _ _ _ _ _ _ _ _ _ _ _ _ hl1 hl2 HR5.out HL.out
                  · have hlt : Sort.ltInt x2 y2 = false := decide_eq_false hxy
                    rw [hlt] at hl
                    have hsd := Hsd.out
                    rw [if_neg (by rw [decide_eq_false hxy]; decide)] at hsd
                    have HJ3 := Lib.hid (hsd.symm.trans HJ.out)
                    clear hsd Hsd HJ hxy S0 T0
                    refine mix3_eff rfl ?_
                    simp only [List.getElem_toArray, List.getElem_cons_zero, List.getElem_cons_succ]
                    go_wp2_with fail
                    refine (hl _).mono ?_
                    rintro r' w3 ⟨rfl, rfl⟩
                    go_wp2_with fail
                    refine mixQ3_normal (KeepsBut.refl _ _) rfl ?_
                    repeat ((first | (refine mix3_free (v := ?_) rfl rfl ?_ (mix3_norm (a' := ?_) ?_ ?_); rotate_left; focus (intro w'; go_simp; first | done | (with_reducible rfl))) | (refine mix3_pure (v := ?_) rfl rfl ?_ (mix3_norm (a' := ?_) ?_ ?_); rotate_left; focus (intro w' hR; go_simp; first | done | (with_reducible rfl))) | refine mix3_freeOff rfl rfl (mix3_norm (a' := ?_) ?_ ?_) | refine mix3_off rfl rfl (mix3_norm (a' := ?_) ?_ ?_)); rotate_left; focus (simp only [Act.put, List.getElem_toArray, List.getElem_cons_zero, List.getElem_cons_succ, List.setIfInBounds_toArray, List.set_cons_zero, List.set_cons_succ]; rfl))
                    refine mix3_done ?_
                    go_wp2_with fail
                    case roundEnd =>
                      have := Hl0.out
                      exact ⟨⟨l0, by omega, by omega, rfl, HR5, HJ3⟩, by simp only [intOf]; omega⟩
                · have Hge := Lib.hid (show decide (k ≤ l) = false from decide_eq_false hkl)
                  have hsd : Sort.scanDown (fun x => !Sort.ltInt x d1[a]!) d1 k l = l := by
                    cases l with
                    | zero => rfl
                    | succ l0 => rw [Sort.scanDown]; simp [hkl]
                  have HL := Lib.hid (HJ.out.symm.trans hsd)
                  have HR5 := Lib.hid (show SrtOut W wd.drew b c d1 from ⟨HR2.out.1.drew, HR2.out.2.drew⟩)
                  clear HJ hkl HR2 hsd
                  go_wp2_with fail
                  refine wp_region_mix3 (KeepsBut []) (KeepsBut.refl []) (KeepsBut.trans []) [] [(0, 0), (0, 1), (0, 2), (0, 3), (0, 4), (0, 5), (0, 6), (0, 8), (0, 9), (0, 10), (1, 7), (1, 11), (2, 12), (0, 13), (0, 14)] (by kernel_rfl) (by kernel_rfl) (fun d _ _ _ _ h => by cases d <;> exact h) ?_
                  generalize wd.drew = w5 at HR5 ⊢
                  have hge := Hge.out
                  repeat ((first | (refine mix3_free (v := ?_) rfl rfl ?_ (mix3_norm (a' := ?_) ?_ ?_); rotate_left; focus (intro w'; go_simp; first | done | (with_reducible rfl))) | (refine mix3_pure (v := ?_) rfl rfl ?_ (mix3_norm (a' := ?_) ?_ ?_); rotate_left; focus (intro w' hR; go_simp; first | done | (with_reducible rfl))) | refine mix3_freeOff rfl rfl (mix3_norm (a' := ?_) ?_ ?_) | refine mix3_off rfl rfl (mix3_norm (a' := ?_) ?_ ?_)); rotate_left; focus (simp only [Act.put, List.getElem_toArray, List.getElem_cons_zero, List.getElem_cons_succ, List.setIfInBounds_toArray, List.set_cons_zero, List.set_cons_succ]; rfl))
                  refine mix3_skip (KeepsBut.refl []) rfl rfl (mix3_norm (a' := ?_) ?_ ?_)
                  rotate_left
                  focus (simp only [Act.put, List.getElem_toArray, List.getElem_cons_zero, List.getElem_cons_succ, List.setIfInBounds_toArray, List.set_cons_zero, List.set_cons_succ]; rfl)
                  repeat ((first | (refine mix3_free (v := ?_) rfl rfl ?_ (mix3_norm (a' := ?_) ?_ ?_); rotate_left; focus (intro w'; go_simp; first | done | (with_reducible rfl))) | (refine mix3_pure (v := ?_) rfl rfl ?_ (mix3_norm (a' := ?_) ?_ ?_); rotate_left; focus (intro w' hR; go_simp; first | done | (with_reducible rfl))) | refine mix3_freeOff rfl rfl (mix3_norm (a' := ?_) ?_ ?_) | refine mix3_off rfl rfl (mix3_norm (a' := ?_) ?_ ?_)); rotate_left; focus (simp only [Act.put, List.getElem_toArray, List.getElem_cons_zero, List.getElem_cons_succ, List.setIfInBounds_toArray, List.set_cons_zero, List.set_cons_succ]; rfl))
                  refine mix3_done ?_
                  clear hge Hge
                  go_wp2_with fail
                  exact HJ2.out l _ _ _ _ _ _ _ _ _ _ _ _ _ _ _ _ _ _ _ _ _ _ _ _ _ _ _ _ _ _ _ _ _ _ _ _ _ _ _ _ _ _ _ _ _ _ _ _ _ _ _ _ _ _ _ hl1 hl2 HR5.out HL.out
            clear HK1 HE
            go_wp2_with fail
            go_loopw [10] (fun v wi => ∃ k : Nat, i ≤ k ∧ k ≤ e0 + 1 ∧ v = .int .i64 k ∧ Hid (SrtOut W wi b c d1) ∧ Hid (Sort.scanUp (fun x => Sort.ltInt x d1[a]!) d1 j k = Sort.scanUp (fun x => Sort.ltInt x d1[a]!) d1 j i)) (fun v _ => ((e0 : Int) + 2 - intOf v).toNat)
            case atStart => exact ⟨i, Nat.le_refl _, hi2, by first | rfl | (push_cast; rfl), HR1, Lib.hid rfl⟩
            case round =>
              clear HR1
              obtain ⟨k, hk1, hk2, rfl, HR, HJ⟩ := hrel
              obtain ⟨wi, hwi⟩ : ∃ wi : World, wi = wr := ⟨_, rfl⟩
              subst hwi
              have hk1000 : k ≤ 1001 := by omega
              by_cases hkj : k ≤ j
              · have hkn : (k : Int) < (n : Int) := by omega
                have hkji : (k : Int) ≤ (j : Int) := by omega
                have his : k < d1.size := by have := Hs1.out; omega
                have los : a < d1.size := by have := Hs1.out; omega
                have s0 := HR.out.1.cell his
                have t0 := HR.out.1.cell los
                have Hsw := Lib.hid (fun W' (h : ARow W' b c d1) => h.swp k a)
                obtain ⟨x1, hx⟩ : ∃ x, d1[k]! = x := ⟨_, rfl⟩
                obtain ⟨y1, hy⟩ : ∃ y, d1[a]! = y := ⟨_, rfl⟩
                rw [hx] at s0 Hsw
                rw [hy] at t0 Hsw
                have S0 := Lib.hid s0
                have T0 := Lib.hid t0
                have Hsc := Lib.hid (show Sort.scanUp (fun x => Sort.ltInt x d1[a]!) d1 j k = if decide (x1 < y1) then Sort.scanUp (fun x => Sort.ltInt x d1[a]!) d1 j (k + 1) else k from by
                  rw [Sort.scanUp, hx, hy]
                  by_cases h : x1 < y1 <;> simp [hkj, Sort.ltInt, h])
                have hl := less_any x1 y1
                clear hx hy S0 T0 Hsw
                go_wp2_with fail
                have p0 := fun w' (hk : KeepsBut [] wi.drew w') => hk.cell (p := ⟨b, k, none⟩) s0 (by simp)
                have p1 := fun w' (hk : KeepsBut [] wi.drew w') => hk.cell (p := ⟨b, a, none⟩) t0 (by simp)
                have HR2 := Lib.hid (show SrtOut W wi.drew b c d1 from ⟨HR.out.1.drew, HR.out.2.drew⟩)
                have S0 := Lib.hid (show wi.drew.cell? ⟨b, k, none⟩ = some (.int .u64 x1) from s0)
                have T0 := Lib.hid (show wi.drew.cell? ⟨b, a, none⟩ = some (.int .u64 y1) from t0)
                clear s0 t0
                refine wp_region_mix3 (KeepsBut []) (KeepsBut.refl []) (KeepsBut.trans []) [] [(0, 0), (0, 1), (0, 2), (0, 3), (0, 4), (0, 5), (0, 6), (0, 8), (0, 9), (0, 10), (1, 7), (1, 11), (2, 12), (0, 13)] (by kernel_rfl) (by kernel_rfl) (fun d _ _ _ _ h => by cases d <;> exact h) ?_
                generalize wi.drew = w2 at p0 p1 HR2 S0 T0 ⊢
                repeat ((first | (refine mix3_free (v := ?_) rfl rfl ?_ (mix3_norm (a' := ?_) ?_ ?_); rotate_left; focus (intro w'; go_simp; first | done | (with_reducible rfl))) | (refine mix3_pure (v := ?_) rfl rfl ?_ (mix3_norm (a' := ?_) ?_ ?_); rotate_left; focus (intro w' hR; go_simp; first | done | (with_reducible rfl))) | refine mix3_freeOff rfl rfl (mix3_norm (a' := ?_) ?_ ?_) | refine mix3_off rfl rfl (mix3_norm (a' := ?_) ?_ ?_)); rotate_left; focus (simp only [Act.put, List.getElem_toArray, List.getElem_cons_zero, List.getElem_cons_succ, List.setIfInBounds_toArray, List.set_cons_zero, List.set_cons_succ]; rfl))
                clear p0 p1
                by_cases hxy : x1 < y1
                · have hlt : Sort.ltInt x1 y1 = true := decide_eq_true hxy
                  rw [hlt] at hl
                  have hsc := Hsc.out
                  rw [if_pos (decide_eq_true hxy)] at hsc
                  have HK := Lib.hid (hsc.symm.trans HJ.out)
                  clear hsc Hsc HJ hxy S0 T0 HR
                  refine mix3_eff rfl ?_
                  simp only [List.getElem_toArray, List.getElem_cons_zero, List.getElem_cons_succ]
                  go_wp2_with fail
                  refine (hl _).mono ?_
                  rintro r' w3 ⟨rfl, rfl⟩
                  go_wp2_with fail
                  refine mixQ3_normal (KeepsBut.refl _ _) rfl ?_
                  repeat ((first | (refine mix3_free (v := ?_) rfl rfl ?_ (mix3_norm (a' := ?_) ?_ ?_); rotate_left; focus (intro w'; go_simp; first | done | (with_reducible rfl))) | (refine mix3_pure (v := ?_) rfl rfl ?_ (mix3_norm (a' := ?_) ?_ ?_); rotate_left; focus (intro w' hR; go_simp; first | done | (with_reducible rfl))) | refine mix3_freeOff rfl rfl (mix3_norm (a' := ?_) ?_ ?_) | refine mix3_off rfl rfl (mix3_norm (a' := ?_) ?_ ?_)); rotate_left; focus (simp only [Act.put, List.getElem_toArray, List.getElem_cons_zero, List.getElem_cons_succ, List.setIfInBounds_toArray, List.set_cons_zero, List.set_cons_succ]; rfl))
                  refine mix3_done ?_
                  go_wp2_with fail
                  case roundEnd =>
                    exact ⟨⟨k + 1, by omega, by omega, by push_cast; rfl, HR2, HK⟩, by simp only [intOf]; omega⟩
                · have hlt : Sort.ltInt x1 y1 = false := decide_eq_false hxy
                  rw [hlt] at hl
                  have hsc := Hsc.out
                  rw [if_neg (by rw [decide_eq_false hxy]; decide)] at hsc
                  have HK := Lib.hid (show Sort.scanUp (fun x => Sort.ltInt x d1[a]!) d1 j i = k from HJ.out.symm.trans hsc)
                  clear hsc Hsc HJ hxy S0 T0 HR
                  refine mix3_eff rfl ?_
                  simp only [List.getElem_toArray, List.getElem_cons_zero, List.getElem_cons_succ]
                  go_wp2_with fail
                  refine (hl _).mono ?_
                  rintro r' w3 ⟨rfl, rfl⟩
                  go_wp2_with fail
                  refine mixQ3_normal (KeepsBut.refl _ _) rfl ?_
                  repeat ((first | (refine mix3_free (v := ?_) rfl rfl ?_ (mix3_norm (a' := ?_) ?_ ?_); rotate_left; focus (intro w'; go_simp; first | done | (with_reducible rfl))) | (refine mix3_pure (v := ?_) rfl rfl ?_ (mix3_norm (a' := ?_) ?_ ?_); rotate_left; focus (intro w' hR; go_simp; first | done | (with_reducible rfl))) | refine mix3_freeOff rfl rfl (mix3_norm (a' := ?_) ?_ ?_) | refine mix3_off rfl rfl (mix3_norm (a' := ?_) ?_ ?_)); rotate_left; focus (simp only [Act.put, List.getElem_toArray, List.getElem_cons_zero, List.getElem_cons_succ, List.setIfInBounds_toArray, List.set_cons_zero, List.set_cons_succ]; rfl))
                  refine mix3_done ?_
                  go_wp2_with fail
                  exact HJ1.out k _ _ _ _ _ _ _ _ _ _ _ _ _ _ _ _ _ _ _ _ _ _ _ _ _ _ _ _ _ _ _ _ _ _ _ _ _ _ _ _ _ _ _ _ _ _ _ _ _ _ _ _ _ _ _ hk1 hk2 HR2.out HK.out
              · have Hge := Lib.hid (show decide (k ≤ j) = false from decide_eq_false hkj)
                have HK := Lib.hid (show Sort.scanUp (fun x => Sort.ltInt x d1[a]!) d1 j i = k from by
                  rw [← HJ.out, Sort.scanUp]
                  simp [hkj])
                have HR2 := Lib.hid (show SrtOut W wi.drew b c d1 from ⟨HR.out.1.drew, HR.out.2.drew⟩)
                clear HJ hkj HR
                go_wp2_with fail
                refine wp_region_mix3 (KeepsBut []) (KeepsBut.refl []) (KeepsBut.trans []) [] [(0, 0), (0, 1), (0, 2), (0, 3), (0, 4), (0, 5), (0, 6), (0, 8), (0, 9), (0, 10), (1, 7), (1, 11), (2, 12), (0, 13)] (by kernel_rfl) (by kernel_rfl) (fun d _ _ _ _ h => by cases d <;> exact h) ?_
                generalize wi.drew = w2 at HR2 ⊢
                have hge := Hge.out
                repeat ((first | (refine mix3_free (v := ?_) rfl rfl ?_ (mix3_norm (a' := ?_) ?_ ?_); rotate_left; focus (intro w'; go_simp; first | done | (with_reducible rfl))) | (refine mix3_pure (v := ?_) rfl rfl ?_ (mix3_norm (a' := ?_) ?_ ?_); rotate_left; focus (intro w' hR; go_simp; first | done | (with_reducible rfl))) | refine mix3_freeOff rfl rfl (mix3_norm (a' := ?_) ?_ ?_) | refine mix3_off rfl rfl (mix3_norm (a' := ?_) ?_ ?_)); rotate_left; focus (simp only [Act.put, List.getElem_toArray, List.getElem_cons_zero, List.getElem_cons_succ, List.setIfInBounds_toArray, List.set_cons_zero, List.set_cons_succ]; rfl))
                refine mix3_skip (KeepsBut.refl []) rfl rfl (mix3_norm (a' := ?_) ?_ ?_)
                rotate_left
                focus (simp only [Act.put, List.getElem_toArray, List.getElem_cons_zero, List.getElem_cons_succ, List.setIfInBounds_toArray, List.set_cons_zero, List.set_cons_succ]; rfl)
                repeat ((first | (refine mix3_free (v := ?_) rfl rfl ?_ (mix3_norm (a' := ?_) ?_ ?_); rotate_left; focus (intro w'; go_simp; first | done | (with_reducible rfl))) | (refine mix3_pure (v := ?_) rfl rfl ?_ (mix3_norm (a' := ?_) ?_ ?_); rotate_left; focus (intro w' hR; go_simp; first | done | (with_reducible rfl))) | refine mix3_freeOff rfl rfl (mix3_norm (a' := ?_) ?_ ?_) | refine mix3_off rfl rfl (mix3_norm (a' := ?_) ?_ ?_)); rotate_left; focus (simp only [Act.put, List.getElem_toArray, List.getElem_cons_zero, List.getElem_cons_succ, List.setIfInBounds_toArray, List.set_cons_zero, List.set_cons_succ]; rfl))
                refine mix3_done ?_
                clear hge Hge
                go_wp2_with fail
                exact HJ1.out k _ _ _ _ _ _ _ _ _ _ _ _ _ _ _ _ _ _ _ _ _ _ _ _ _ _ _ _ _ _ _ _ _ _ _ _ _ _ _ _ _ _ _ _ _ _ _ _ _ _ _ _ _ _ _ hk1 hk2 HR2.out HK.out
        clear HK12
        go_wp2_with fail
        have := Hl0.out
        exact HJ12.out _ (k + 1) l0 d9 _ _ _ _ _ _ _ _ _ _ _ _ _ _ _ _ _ _ _ _ _ _ _ _ _ _ _ _ _ _ _ _ _ _ _ _ _ _ _ _ _ _ _ _ _ _ _ _ _ _ _ _ _ _ _ _ _ _ _ _ _ _ _ _ _ _ _ _ _ _ _ _ _ _ _ _ _ _ _ _ _ _ _ _ _ _ _ _ _ _ _ _ _ _ _ _ _ _ _ _ _ _ _ _ _ _ _ _ _ _ _ _ _ _ _ _ _ _ _ _ _ _ _ _ _ _ _ _ _ _ _ _ _ _ _ _ _ _ _ _ _ _ _ _ _ _ _ _ _ _ _ _ _ _ _ _ _ (by push_cast; rfl) (by omega) (by omega) (by omega) (by omega) HZ9.out HR6.out HX.out
      · have hgt : (l : Int) < (k : Int) := by omega
        rw [if_pos (by omega)] at hX
        have HX := Lib.hid hX
        clear hX hkl
        go_wp2_with fail
        have his : l < d1.size := by have := Hs1.out; omega
        have los : a < d1.size := by have := Hs1.out; omega
        have s0 := HR5.out.1.cell his
        have t0 := HR5.out.1.cell los
        have Hsw := Lib.hid (fun W' (h : ARow W' b c d1) => h.swp l a)
        obtain ⟨x4, hx⟩ : ∃ x, d1[l]! = x := ⟨_, rfl⟩
        obtain ⟨y4, hy⟩ : ∃ y, d1[a]! = y := ⟨_, rfl⟩
        rw [hx] at s0 Hsw
        rw [hy] at t0 Hsw
        have S0 := Lib.hid s0
        have T0 := Lib.hid t0
        clear hx hy s0 t0
        have s0 := S0.out
        have t0 := T0.out
        have p0 := fun w' (hk : KeepsBut [] w5.drew w') => hk.cell (p := ⟨b, l, none⟩) s0 (by simp)
        have p1 := fun w' (hk : KeepsBut [] w5.drew w') => hk.cell (p := ⟨b, a, none⟩) t0 (by simp)
        have HA := HR5.out.1.drew
        have HR8 := Lib.hid (show SrtOut W ((w5.drew.setCell ⟨b, l, none⟩ (.int .u64 y4)).setCell ⟨b, a, none⟩ (.int .u64 x4)) b c (Sort.swp d1 l a) from ⟨Hsw.out _ HA, HR5.out.2.drew.trans (chg_swp w5.drew b l a (.int .u64 y4) (.int .u64 x4)) (fun _ _ h => h)⟩)
        have f0 := HA.frozen l
        have f1 := (HA.set l y4).frozen a
        have c0 : w5.drew.cell? ⟨b, l, none⟩ = some (.int .u64 x4) := s0
        obtain ⟨u1, c1⟩ : ∃ u1, (w5.drew.setCell ⟨b, l, none⟩ (.int .u64 y4)).cell? ⟨b, a, none⟩ = some u1 := ⟨_, (HA.set l y4).cell (by rw [Array.size_setIfInBounds]; exact los)⟩
        clear s0 t0 HA
        refine wp_region_mix3 (KeepsBut []) (KeepsBut.refl []) (KeepsBut.trans []) [13, 15] [(0, 0), (0, 1), (0, 2), (0, 3), (0, 4), (0, 5), (0, 6), (0, 8), (0, 9), (0, 10), (1, 7), (1, 11), (0, 12), (2, 13), (0, 14), (2, 15)] (by kernel_rfl) (by kernel_rfl) (fun d _ _ _ _ h => by cases d <;> exact h) ?_
        generalize w5.drew = w8 at p0 p1 HR8 f0 f1 c0 c1 ⊢
        repeat ((first | (refine mix3_free (v := ?_) rfl rfl ?_ (mix3_norm (a' := ?_) ?_ ?_); rotate_left; focus (intro w'; go_simp; first | done | (with_reducible rfl))) | (refine mix3_pure (v := ?_) rfl rfl ?_ (mix3_norm (a' := ?_) ?_ ?_); rotate_left; focus (intro w' hR; go_simp; first | done | (with_reducible rfl))) | refine mix3_freeOff rfl rfl (mix3_norm (a' := ?_) ?_ ?_) | refine mix3_off rfl rfl (mix3_norm (a' := ?_) ?_ ?_)); rotate_left; focus (simp only [Act.put, List.getElem_toArray, List.getElem_cons_zero, List.getElem_cons_succ, List.setIfInBounds_toArray, List.set_cons_zero, List.set_cons_succ]; rfl))
        refine mix3_eff rfl ?_
        simp only [List.getElem_toArray, List.getElem_cons_zero, List.getElem_cons_succ]
        go_wp2_with fail
        refine mixQ3_last (by simp) rfl ?_
        repeat ((first | (refine mix3_free (v := ?_) rfl rfl ?_ (mix3_norm (a' := ?_) ?_ ?_); rotate_left; focus (intro w'; go_simp; first | done | (with_reducible rfl))) | (refine mix3_pure (v := ?_) rfl rfl ?_ (mix3_norm (a' := ?_) ?_ ?_); rotate_left; focus (intro w' hR; go_simp; first | done | (with_reducible rfl))) | refine mix3_freeOff rfl rfl (mix3_norm (a' := ?_) ?_ ?_) | refine mix3_off rfl rfl (mix3_norm (a' := ?_) ?_ ?_)); rotate_left; focus (simp only [Act.put, List.getElem_toArray, List.getElem_cons_zero, List.getElem_cons_succ, List.setIfInBounds_toArray, List.set_cons_zero, List.set_cons_succ]; rfl))
        refine mix3_eff rfl ?_
        simp only [List.getElem_toArray, List.getElem_cons_zero, List.getElem_cons_succ]
        go_wp2_with fail
        refine mixQ3_last (by simp) rfl ?_
        refine mix3_done ?_
        clear p0 p1 f0 f1 c0 c1
        generalize (w8.setCell ⟨b, l, none⟩ (.int .u64 y4)).setCell ⟨b, a, none⟩ (.int .u64 x4) = w8' at HR8 ⊢
        clear Hsw S0 T0
        go_wp2_with fail
        try simp only [Exit.inBlock, Exit.then]
        exact bodyPost_ret (results_tmp2 rfl _ _ _) rfl ⟨⟨true, by rw [← HX.out]; rfl⟩, by rw [← HX.out]; exact HR8.out⟩
    clear HK2 HE HK
    go_wp2_with fail
    go_loopw [11] (fun v wd => ∃ l : Nat, a ≤ l ∧ l ≤ e0 ∧ v = .int .i64 l ∧ Hid (SrtOut W wd b c d1) ∧ Hid (Sort.scanDown (fun x => !Sort.ltInt x d1[a]!) d1 k l = Sort.scanDown (fun x => !Sort.ltInt x d1[a]!) d1 k e0)) (fun v _ => (intOf v).toNat)
    case atStart => exact ⟨e0, hj1, Nat.le_refl _, rfl, HR2, Lib.hid rfl⟩
    case round =>
      clear HR2
      obtain ⟨l, hl1, hl2, rfl, HR2, HJ⟩ := hrel
      obtain ⟨wd, hwd⟩ : ∃ wd : World, wd = wr := ⟨_, rfl⟩
      subst hwd
      have hl1000 : l ≤ 1000 := by omega
      by_cases hkl : k ≤ l
      · obtain ⟨l0, hl0⟩ : ∃ l0, l = l0 + 1 := ⟨l - 1, by omega⟩
        have Hl0 := Lib.hid hl0
        have hln : (l : Int) < (n : Int) := by omega
        have hkn2 : (k : Int) < (n : Int) := by omega
        have hwl : (l : Int) - 1 = (l0 : Int) := by omega
        have his : l < d1.size := by have := Hs1.out; omega
        have los : a < d1.size := by have := Hs1.out; omega
        have s0 := HR2.out.1.cell his
        have t0 := HR2.out.1.cell los
        have Hsw := Lib.hid (fun W' (h : ARow W' b c d1) => h.swp l a)
        obtain ⟨x2, hx⟩ : ∃ x, d1[l]! = x := ⟨_, rfl⟩
        obtain ⟨y2, hy⟩ : ∃ y, d1[a]! = y := ⟨_, rfl⟩
        rw [hx] at s0 Hsw
        rw [hy] at t0 Hsw
        have S0 := Lib.hid s0
        have T0 := Lib.hid t0
        have Hsd := Lib.hid (show Sort.scanDown (fun x => !Sort.ltInt x d1[a]!) d1 k l = if decide (x2 < y2) then l else Sort.scanDown (fun x => !Sort.ltInt x d1[a]!) d1 k l0 from by
          rw [hl0, Sort.scanDown, ← hl0, hx, hy]
          by_cases h : x2 < y2 <;> simp [hkl, Sort.ltInt, h])
        have hl := less_any x2 y2
        clear hx hy S0 T0 Hsw hl0
        go_wp2_with fail
        have p0 := fun w' (hk : KeepsBut [] wd.drew w') => hk.cell (p := ⟨b, l, none⟩) s0 (by simp)
        have p1 := fun w' (hk : KeepsBut [] wd.drew w') => hk.cell (p := ⟨b, a, none⟩) t0 (by simp)
        have HR5 := Lib.hid (show SrtOut W wd.drew b c d1 from ⟨HR2.out.1.drew, HR2.out.2.drew⟩)
        have S0 := Lib.hid (show wd.drew.cell? ⟨b, l, none⟩ = some (.int .u64 x2) from s0)
        have T0 := Lib.hid (show wd.drew.cell? ⟨b, a, none⟩ = some (.int .u64 y2) from t0)
        clear s0 t0
        refine wp_region_mix3 (KeepsBut []) (KeepsBut.refl []) (KeepsBut.trans []) [] [(0, 0), (0, 1), (0, 2), (0, 3), (0, 4), (0, 5), (0, 6), (0, 8), (0, 9), (0, 10), (1, 7), (1, 11), (2, 12), (0, 13), (0, 14)] (by kernel_rfl) (by kernel_rfl) (fun d _ _ _ _ h => by cases d <;> exact h) ?_
        generalize wd.drew = w5 at p0 p1 HR5 S0 T0 ⊢
        repeat ((first | (refine mix3_free (v := ?_) rfl rfl ?_ (mix3_norm (a' := ?_) ?_ ?_); rotate_left; focus (intro w'; go_simp; first | done | (with_reducible rfl))) | (refine mix3_pure (v := ?_) rfl rfl ?_ (mix3_norm (a' := ?_) ?_ ?_); rotate_left; focus (intro w' hR; go_simp; first | done | (with_reducible rfl))) | refine mix3_freeOff rfl rfl (mix3_norm (a' := ?_) ?_ ?_) | refine mix3_off rfl rfl (mix3_norm (a' := ?_) ?_ ?_)); rotate_left; focus (simp only [Act.put, List.getElem_toArray, List.getElem_cons_zero, List.getElem_cons_succ, List.setIfInBounds_toArray, List.set_cons_zero, List.set_cons_succ]; rfl))
        clear p0 p1
        by_cases hxy : x2 < y2
        · have hlt : Sort.ltInt x2 y2 = true := decide_eq_true hxy
          rw [hlt] at hl
          have hsd := Hsd.out
          rw [if_pos (decide_eq_true hxy)] at hsd
          have HL := Lib.hid (HJ.out.symm.trans hsd)
          clear hsd Hsd HJ hxy S0 T0
          refine mix3_eff rfl ?_
          simp only [List.getElem_toArray, List.getElem_cons_zero, List.getElem_cons_succ]
          go_wp2_with fail
          refine (hl _).mono ?_
          rintro r' w3 ⟨rfl, rfl⟩
          go_wp2_with fail
          refine mixQ3_normal (KeepsBut.refl _ _) rfl ?_
          repeat ((first | (refine mix3_free (v := ?_) rfl rfl ?_ (mix3_norm (a' := ?_) ?_ ?_); rotate_left; focus (intro w'; go_simp; first | done | (with_reducible rfl))) | (refine mix3_pure (v := ?_) rfl rfl ?_ (mix3_norm (a' := ?_) ?_ ?_); rotate_left; focus (intro w' hR; go_simp; first | done | (with_reducible rfl))) | refine mix3_freeOff rfl rfl (mix3_norm (a' := ?_) ?_ ?_) | refine mix3_off rfl rfl (mix3_norm (a' := ?_) ?_ ?_)); rotate_left; focus (simp only [Act.put, List.getElem_toArray, List.getElem_cons_zero, List.getElem_cons_succ, List.setIfInBounds_toArray, List.set_cons_zero, List.set_cons_succ]; rfl))
          refine mix3_done ?_
          go_wp2_with fail
          exact HJ2.out l _ _ _ _ _ _ _ _ _ _ _ _ _ _ _ _ _ _ _ _ _ _ _ _ _ _ _ _ _ _ _ _ _ _ _ _ _ _ _ _ _ _ _ _ _ _ _ _ _ _ _ _ _ _ _ _ _ _ _ _ _ _ _ _ _ _ _ _ _ _ _ _ _ _ _ _ _ _ _ _ _ _ _ _ _ _ _ _ _ _ _ _ _ _ _ _ _ _ _ _ _ _ _ _ _ _ _ _ _ _ _ _ _ _ _ _ _ _ _ _ _ _ _ _ _ _ _ _ _ _ _ _ _ _ _ _ _ _ _ _ _ _ _ _ _ _ _ _ _ _ _ _ _ _ _ _ _ hl1 hl2 HR5.out HL.out
        · have hlt : Sort.ltInt x2 y2 = false := decide_eq_false hxy
          rw [hlt] at hl
          have hsd := Hsd.out
          rw [if_neg (by rw [decide_eq_false hxy]; decide)] at hsd
          have HJ3 := Lib.hid (hsd.symm.trans HJ.out)
          clear hsd Hsd HJ hxy S0 T0
          refine mix3_eff rfl ?_
          simp only [List.getElem_toArray, List.getElem_cons_zero, List.getElem_cons_succ]
          go_wp2_with fail
          refine (hl _).mono ?_
          rintro r' w3 ⟨rfl, rfl⟩
          go_wp2_with fail
          refine mixQ3_normal (KeepsBut.refl _ _) rfl ?_
          repeat ((first | (refine mix3_free (v := ?_) rfl rfl ?_ (mix3_norm (a' := ?_) ?_ ?_); rotate_left; focus (intro w'; go_simp; first | done | (with_reducible rfl))) | (refine mix3_pure (v := ?_) rfl rfl ?_ (mix3_norm (a' := ?_) ?_ ?_); rotate_left; focus (intro w' hR; go_simp; first | done | (with_reducible rfl))) | refine mix3_freeOff rfl rfl (mix3_norm (a' := ?_) ?_ ?_) | refine mix3_off rfl rfl (mix3_norm (a' := ?_) ?_ ?_)); rotate_left; focus (simp only [Act.put, List.getElem_toArray, List.getElem_cons_zero, List.getElem_cons_succ, List.setIfInBounds_toArray, List.set_cons_zero, List.set_cons_succ]; rfl))
          refine mix3_done ?_
          go_wp2_with fail
          case roundEnd =>
            have := Hl0.out
            exact ⟨⟨l0, by omega, by omega, rfl, HR5, HJ3⟩, by simp only [intOf]; omega⟩
      · have Hge := Lib.hid (show decide (k ≤ l) = false from decide_eq_false hkl)
        have hsd : Sort.scanDown (fun x => !Sort.ltInt x d1[a]!) d1 k l = l := by
          cases l with
          | zero => rfl
          | succ l0 => rw [Sort.scanDown]; simp [hkl]
        have HL := Lib.hid (HJ.out.symm.trans hsd)
        have HR5 := Lib.hid (show SrtOut W wd.drew b c d1 from ⟨HR2.out.1.drew, HR2.out.2.drew⟩)
        clear HJ hkl HR2 hsd
        go_wp2_with fail
        refine wp_region_mix3 (KeepsBut []) (KeepsBut.refl []) (KeepsBut.trans []) [] [(0, 0), (0, 1), (0, 2), (0, 3), (0, 4), (0, 5), (0, 6), (0, 8), (0, 9), (0, 10), (1, 7), (1, 11), (2, 12), (0, 13), (0, 14)] (by kernel_rfl) (by kernel_rfl) (fun d _ _ _ _ h => by cases d <;> exact h) ?_
        generalize wd.drew = w5 at HR5 ⊢
        have hge := Hge.out
        repeat ((first | (refine mix3_free (v := ?_) rfl rfl ?_ (mix3_norm (a' := ?_) ?_ ?_); rotate_left; focus (intro w'; go_simp; first | done | (with_reducible rfl))) | (refine mix3_pure (v := ?_) rfl rfl ?_ (mix3_norm (a' := ?_) ?_ ?_); rotate_left; focus (intro w' hR; go_simp; first | done | (with_reducible rfl))) | refine mix3_freeOff rfl rfl (mix3_norm (a' := ?_) ?_ ?_) | refine mix3_off rfl rfl (mix3_norm (a' := ?_) ?_ ?_)); rotate_left; focus (simp only [Act.put, List.getElem_toArray, List.getElem_cons_zero, List.getElem_cons_succ, List.setIfInBounds_toArray, List.set_cons_zero, List.set_cons_succ]; rfl))
        refine mix3_skip (KeepsBut.refl []) rfl rfl (mix3_norm (a' := ?_) ?_ ?_)
        rotate_left
        focus (simp only [Act.put, List.getElem_toArray, List.getElem_cons_zero, List.getElem_cons_succ, List.setIfInBounds_toArray, List.set_cons_zero, List.set_cons_succ]; rfl)
        repeat ((first | (refine mix3_free (v := ?_) rfl rfl ?_ (mix3_norm (a' := ?_) ?_ ?_); rotate_left; focus (intro w'; go_simp; first | done | (with_reducible rfl))) | (refine mix3_pure (v := ?_) rfl rfl ?_ (mix3_norm (a' := ?_) ?_ ?_); rotate_left; focus (intro w' hR; go_simp; first | done | (with_reducible rfl))) | refine mix3_freeOff rfl rfl (mix3_norm (a' := ?_) ?_ ?_) | refine mix3_off rfl rfl (mix3_norm (a' := ?_) ?_ ?_)); rotate_left; focus (simp only [Act.put, List.getElem_toArray, List.getElem_cons_zero, List.getElem_cons_succ, List.setIfInBounds_toArray, List.set_cons_zero, List.set_cons_succ]; rfl))
        refine mix3_done ?_
        clear hge Hge
        go_wp2_with fail
        exact HJ2.out l _ _ _ _ _ _ _ _ _ _ _ _ _ _ _ _ _ _ _ _ _ _ _ _ _ _ _ _ _ _ _ _ _ _ _ _ _ _ _ _ _ _ _ _ _ _ _ _ _ _ _ _ _ _ _ _ _ _ _ _ _ _ _ _ _ _ _ _ _ _ _ _ _ _ _ _ _ _ _ _ _ _ _ _ _ _ _ _ _ _ _ _ _ _ _ _ _ _ _ _ _ _ _ _ _ _ _ _ _ _ _ _ _ _ _ _ _ _ _ _ _ _ _ _ _ _ _ _ _ _ _ _ _ _ _ _ _ _ _ _ _ _ _ _ _ _ _ _ _ _ _ _ _ _ _ _ _ hl1 hl2 HR5.out HL.out
  clear HK1 HE
  go_wp2_with fail
  go_loopw [10] (fun v wi => ∃ k : Nat, (a + 1) ≤ k ∧ k ≤ e0 + 1 ∧ v = .int .i64 k ∧ Hid (SrtOut W wi b c d1) ∧ Hid (Sort.scanUp (fun x => Sort.ltInt x d1[a]!) d1 e0 k = Sort.scanUp (fun x => Sort.ltInt x d1[a]!) d1 e0 (a + 1))) (fun v _ => ((e0 : Int) + 2 - intOf v).toNat)
  case atStart => exact ⟨(a + 1), Nat.le_refl _, hi2, by first | rfl | (push_cast; rfl), HR1, Lib.hid rfl⟩
  case round =>
    clear HR1
    obtain ⟨k, hk1, hk2, rfl, HR, HJ⟩ := hrel
    obtain ⟨wi, hwi⟩ : ∃ wi : World, wi = wr := ⟨_, rfl⟩
    subst hwi
    have hk1000 : k ≤ 1001 := by omega
    by_cases hkj : k ≤ e0
    · have hkn : (k : Int) < (n : Int) := by omega
      have hkji : (k : Int) ≤ (e0 : Int) := by omega
      have his : k < d1.size := by have := Hs1.out; omega
      have los : a < d1.size := by have := Hs1.out; omega
      have s0 := HR.out.1.cell his
      have t0 := HR.out.1.cell los
      have Hsw := Lib.hid (fun W' (h : ARow W' b c d1) => h.swp k a)
      obtain ⟨x1, hx⟩ : ∃ x, d1[k]! = x := ⟨_, rfl⟩
      obtain ⟨y1, hy⟩ : ∃ y, d1[a]! = y := ⟨_, rfl⟩
      rw [hx] at s0 Hsw
      rw [hy] at t0 Hsw
      have S0 := Lib.hid s0
      have T0 := Lib.hid t0
      have Hsc := Lib.hid (show Sort.scanUp (fun x => Sort.ltInt x d1[a]!) d1 e0 k = if decide (x1 < y1) then Sort.scanUp (fun x => Sort.ltInt x d1[a]!) d1 e0 (k + 1) else k from by
        rw [Sort.scanUp, hx, hy]
        by_cases h : x1 < y1 <;> simp [hkj, Sort.ltInt, h])
      have hl := less_any x1 y1
      clear hx hy S0 T0 Hsw
      go_wp2_with fail
      have p0 := fun w' (hk : KeepsBut [] wi.drew w') => hk.cell (p := ⟨b, k, none⟩) s0 (by simp)
      have p1 := fun w' (hk : KeepsBut [] wi.drew w') => hk.cell (p := ⟨b, a, none⟩) t0 (by simp)
      have HR2 := Lib.hid (show SrtOut W wi.drew b c d1 from ⟨HR.out.1.drew, HR.out.2.drew⟩)
      have S0 := Lib.hid (show wi.drew.cell? ⟨b, k, none⟩ = some (.int .u64 x1) from s0)
      have T0 := Lib.hid (show wi.drew.cell? ⟨b, a, none⟩ = some (.int .u64 y1) from t0)
      clear s0 t0
      refine wp_region_mix3 (KeepsBut []) (KeepsBut.refl []) (KeepsBut.trans []) [] [(0, 0), (0, 1), (0, 2), (0, 3), (0, 4), (0, 5), (0, 6), (0, 8), (0, 9), (0, 10), (1, 7), (1, 11), (2, 12), (0, 13)] (by kernel_rfl) (by kernel_rfl) (fun d _ _ _ _ h => by cases d <;> exact h) ?_
      generalize wi.drew = w2 at p0 p1 HR2 S0 T0 ⊢
      repeat ((first | (refine mix3_free (v := ?_) rfl rfl ?_ (mix3_norm (a' := ?_) ?_ ?_); rotate_left; focus (intro w'; go_simp; first | done | (with_reducible rfl))) | (refine mix3_pure (v := ?_) rfl rfl ?_ (mix3_norm (a' := ?_) ?_ ?_); rotate_left; focus (intro w' hR; go_simp; first | done | (with_reducible rfl))) | refine mix3_freeOff rfl rfl (mix3_norm (a' := ?_) ?_ ?_) | refine mix3_off rfl rfl (mix3_norm (a' := ?_) ?_ ?_)); rotate_left; focus (simp only [Act.put, List.getElem_toArray, List.getElem_cons_zero, List.getElem_cons_succ, List.setIfInBounds_toArray, List.set_cons_zero, List.set_cons_succ]; rfl))
      clear p0 p1
      by_cases hxy : x1 < y1
      · have hlt : Sort.ltInt x1 y1 = true := decide_eq_true hxy
        rw [hlt] at hl
        have hsc := Hsc.out
        rw [if_pos (decide_eq_true hxy)] at hsc
        have HK := Lib.hid (hsc.symm.trans HJ.out)
        clear hsc Hsc HJ hxy S0 T0 HR
        refine mix3_eff rfl ?_
        simp only [List.getElem_toArray, List.getElem_cons_zero, List.getElem_cons_succ]
        go_wp2_with fail
        refine (hl _).mono ?_
        rintro r' w3 ⟨rfl, rfl⟩
        go_wp2_with fail
        refine mixQ3_normal (KeepsBut.refl _ _) rfl ?_
        repeat ((first | (refine mix3_free (v := ?_) rfl rfl ?_ (mix3_norm (a' := ?_) ?_ ?_); rotate_left; focus (intro w'; go_simp; first | done | (with_reducible rfl))) | (refine mix3_pure (v := ?_) rfl rfl ?_ (mix3_norm (a' := ?_) ?_ ?_); rotate_left; focus (intro w' hR; go_simp; first | done | (with_reducible rfl))) | refine mix3_freeOff rfl rfl (mix3_norm (a' := ?_) ?_ ?_) | refine mix3_off rfl rfl (mix3_norm (a' := ?_) ?_ ?_)); rotate_left; focus (simp only [Act.put, List.getElem_toArray, List.getElem_cons_zero, List.getElem_cons_succ, List.setIfInBounds_toArray, List.set_cons_zero, List.set_cons_succ]; rfl))
        refine mix3_done ?_
        go_wp2_with fail
        case roundEnd =>
          exact ⟨⟨k + 1, by omega, by omega, by push_cast; rfl, HR2, HK⟩, by simp only [intOf]; omega⟩
      · have hlt : Sort.ltInt x1 y1 = false := decide_eq_false hxy
        rw [hlt] at hl
        have hsc := Hsc.out
        rw [if_neg (by rw [decide_eq_false hxy]; decide)] at hsc
        have HK := Lib.hid (show Sort.scanUp (fun x => Sort.ltInt x d1[a]!) d1 e0 (a + 1) = k from HJ.out.symm.trans hsc)
        clear hsc Hsc HJ hxy S0 T0 HR
        refine mix3_eff rfl ?_
        simp only [List.getElem_toArray, List.getElem_cons_zero, List.getElem_cons_succ]
        go_wp2_with fail
        refine (hl _).mono ?_
        rintro r' w3 ⟨rfl, rfl⟩
        go_wp2_with fail
        refine mixQ3_normal (KeepsBut.refl _ _) rfl ?_
        repeat ((first | (refine mix3_free (v := ?_) rfl rfl ?_ (mix3_norm (a' := ?_) ?_ ?_); rotate_left; focus (intro w'; go_simp; first | done | (with_reducible rfl))) | (refine mix3_pure (v := ?_) rfl rfl ?_ (mix3_norm (a' := ?_) ?_ ?_); rotate_left; focus (intro w' hR; go_simp; first | done | (with_reducible rfl))) | refine mix3_freeOff rfl rfl (mix3_norm (a' := ?_) ?_ ?_) | refine mix3_off rfl rfl (mix3_norm (a' := ?_) ?_ ?_)); rotate_left; focus (simp only [Act.put, List.getElem_toArray, List.getElem_cons_zero, List.getElem_cons_succ, List.setIfInBounds_toArray, List.set_cons_zero, List.set_cons_succ]; rfl))
        refine mix3_done ?_
        go_wp2_with fail
        exact HJ1.out k _ _ _ _ _ _ _ _ _ _ _ _ _ _ _ _ _ _ _ _ _ _ _ _ _ _ _ _ _ _ _ _ _ _ _ _ _ _ _ _ _ _ _ _ _ _ _ _ _ _ _ _ _ _ _ _ _ _ _ _ _ _ _ _ _ _ _ _ _ _ _ _ _ _ _ _ _ _ _ _ _ _ _ _ _ _ _ _ _ _ _ _ _ _ _ _ _ _ _ _ _ _ _ _ _ _ _ _ _ _ _ _ _ _ _ _ _ _ _ _ _ _ _ _ _ _ _ _ _ _ _ _ _ _ _ _ _ _ _ _ _ _ _ _ _ _ _ _ _ _ _ _ _ _ _ _ _ hk1 hk2 HR2.out HK.out
    · have Hge := Lib.hid (show decide (k ≤ e0) = false from decide_eq_false hkj)
      have HK := Lib.hid (show Sort.scanUp (fun x => Sort.ltInt x d1[a]!) d1 e0 (a + 1) = k from by
        rw [← HJ.out, Sort.scanUp]
        simp [hkj])
      have HR2 := Lib.hid (show SrtOut W wi.drew b c d1 from ⟨HR.out.1.drew, HR.out.2.drew⟩)
      clear HJ hkj HR
      go_wp2_with fail
      refine wp_region_mix3 (KeepsBut []) (KeepsBut.refl []) (KeepsBut.trans []) [] [(0, 0), (0, 1), (0, 2), (0, 3), (0, 4), (0, 5), (0, 6), (0, 8), (0, 9), (0, 10), (1, 7), (1, 11), (2, 12), (0, 13)] (by kernel_rfl) (by kernel_rfl) (fun d _ _ _ _ h => by cases d <;> exact h) ?_
      generalize wi.drew = w2 at HR2 ⊢
      have hge := Hge.out
      repeat ((first | (refine mix3_free (v := ?_) rfl rfl ?_ (mix3_norm (a' := ?_) ?_ ?_); rotate_left; focus (intro w'; go_simp; first | done | (with_reducible rfl))) | (refine mix3_pure (v := ?_) rfl rfl ?_ (mix3_norm (a' := ?_) ?_ ?_); rotate_left; focus (intro w' hR; go_simp; first | done | (with_reducible rfl))) | refine mix3_freeOff rfl rfl (mix3_norm (a' := ?_) ?_ ?_) | refine mix3_off rfl rfl (mix3_norm (a' := ?_) ?_ ?_)); rotate_left; focus (simp only [Act.put, List.getElem_toArray, List.getElem_cons_zero, List.getElem_cons_succ, List.setIfInBounds_toArray, List.set_cons_zero, List.set_cons_succ]; rfl))
      refine mix3_skip (KeepsBut.refl []) rfl rfl (mix3_norm (a' := ?_) ?_ ?_)
      rotate_left
      focus (simp only [Act.put, List.getElem_toArray, List.getElem_cons_zero, List.getElem_cons_succ, List.setIfInBounds_toArray, List.set_cons_zero, List.set_cons_succ]; rfl)
      repeat ((first | (refine mix3_free (v := ?_) rfl rfl ?_ (mix3_norm (a' := ?_) ?_ ?_); rotate_left; focus (intro w'; go_simp; first | done | (with_reducible rfl))) | (refine mix3_pure (v := ?_) rfl rfl ?_ (mix3_norm (a' := ?_) ?_ ?_); rotate_left; focus (intro w' hR; go_simp; first | done | (with_reducible rfl))) | refine mix3_freeOff rfl rfl (mix3_norm (a' := ?_) ?_ ?_) | refine mix3_off rfl rfl (mix3_norm (a' := ?_) ?_ ?_)); rotate_left; focus (simp only [Act.put, List.getElem_toArray, List.getElem_cons_zero, List.getElem_cons_succ, List.setIfInBounds_toArray, List.set_cons_zero, List.set_cons_succ]; rfl))
      refine mix3_done ?_
      clear hge Hge
      go_wp2_with fail
      exact HJ1.out k _ _ _ _ _ _ _ _ _ _ _ _ _ _ _ _ _ _ _ _ _ _ _ _ _ _ _ _ _ _ _ _ _ _ _ _ _ _ _ _ _ _ _ _ _ _ _ _ _ _ _ _ _ _ _ _ _ _ _ _ _ _ _ _ _ _ _ _ _ _ _ _ _ _ _ _ _ _ _ _ _ _ _ _ _ _ _ _ _ _ _ _ _ _ _ _ _ _ _ _ _ _ _ _ _ _ _ _ _ _ _ _ _ _ _ _ _ _ _ _ _ _ _ _ _ _ _ _ _ _ _ _ _ _ _ _ _ _ _ _ _ _ _ _ _ _ _ _ _ _ _ _ _ _ _ _ _ hk1 hk2 HR2.out HK.out
end Go.Proofs.Ytebcginnnjigjaa

end
section
/- A pivot is chosen: walked. -/
open Go.RowKit
namespace Go.Proofs.Ytebcginnnjigjaa
def hintI : Sort.Hint → Int
  | .unknown => 0
  | .increasing => 1
  | .decreasing => 2
theorem medAdj_in {d : Array Int} {x k n : Nat} (hx : 1 ≤ x) (hx2 : x + 1 < n) : (Sort.medianAdjacent Sort.ltInt d x k).1 < n ∧ (Sort.medianAdjacent Sort.ltInt d x k).2 ≤ k + 3 := median_in (by omega) (by omega) hx2
def hintS (s : Nat) : Sort.Hint := if s = 0 then .increasing else if s = 12 then .decreasing else .unknown
theorem pivot_big {d : Array Int} {a e i j k : Nat} (h : 50 ≤ e - a) (hi : a + (e - a) / 4 * 1 = i) (hj : a + (e - a) / 4 * 2 = j) (hk : a + (e - a) / 4 * 3 = k) {r1 r2 r3 m : Nat × Nat} (h1 : Sort.medianAdjacent Sort.ltInt d i 0 = r1) (h2 : Sort.medianAdjacent Sort.ltInt d j r1.2 = r2) (h3 : Sort.medianAdjacent Sort.ltInt d k r2.2 = r3) (h4 : Sort.median Sort.ltInt d r1.1 r2.1 r3.1 r3.2 = m) :
    Sort.choosePivot Sort.ltInt d a e = (m.1, hintS m.2) := by
  subst hi hj hk h1 h2 h3 h4
  unfold Sort.choosePivot hintS
  simp only [ge_iff_le, if_pos h, if_pos (show 8 ≤ e - a by omega)]
theorem pivot_small {d : Array Int} {a e i j k : Nat} (h8 : 8 ≤ e - a) (h : ¬ 50 ≤ e - a) (hi : a + (e - a) / 4 * 1 = i) (hj : a + (e - a) / 4 * 2 = j) (hk : a + (e - a) / 4 * 3 = k) {m : Nat × Nat} (h4 : Sort.median Sort.ltInt d i j k 0 = m) :
    Sort.choosePivot Sort.ltInt d a e = (m.1, hintS m.2) := by
  subst hi hj hk h4
  unfold Sort.choosePivot hintS
  simp only [ge_iff_le, if_neg h, if_pos h8]
set_option maxHeartbeats 8000000 in
set_option maxRecDepth 100000 in
theorem pivot_any (W : World) (b c : Nat) (d : Array Int) (a e : Nat) (h : ARow W b c d) (hae : a + 12 < e) (he : e ≤ d.size) (hn : d.size ≤ 1000) :
    Calls Try.prog 85 #[.slice (some ⟨b, 0, none⟩) d.size c, .int .i64 (a : Nat), .int .i64 (e : Nat)] W fun r W' =>
      r = .returned (.tuple #[.int .i64 ((Sort.choosePivot Sort.ltInt d a e).1 : Nat), .int .i64 (hintI (Sort.choosePivot Sort.ltInt d a e).2)]) ∧ Below W.heap.size W W' := by
  obtain ⟨l, hl⟩ : ∃ l : Nat, (e : Int) - (a : Int) = (l : Int) := ⟨e - a, by omega⟩
  have hle : e - a = l := by omega
  obtain ⟨q, hq0⟩ : ∃ q, l / 4 = q := ⟨_, rfl⟩
  have hq : (l : Int) / 4 = (q : Int) := by omega
  obtain ⟨i, hi0⟩ : ∃ i, a + q * 1 = i := ⟨_, rfl⟩
  obtain ⟨j, hj0⟩ : ∃ j, a + q * 2 = j := ⟨_, rfl⟩
  obtain ⟨k, hk0⟩ : ∃ k, a + q * 3 = k := ⟨_, rfl⟩
  have hi : (a : Int) + (q : Int) = (i : Int) := by omega
  have hj : (a : Int) + (q : Int) * 2 = (j : Int) := by omega
  have hk : (a : Int) + (q : Int) * 3 = (k : Int) := by omega
  have hl1 : l ≤ 1000 := by omega
  have hl8 : 8 ≤ (l : Int) := by omega
  have hq1 : q ≤ 250 := by omega
  obtain ⟨in1, in2, in3, in4, in5, in6, in7, in8, in9⟩ : i < d.size ∧ j < d.size ∧ k < d.size ∧ 1 ≤ i ∧ i + 1 < d.size ∧ j + 1 < d.size ∧ k + 1 < d.size ∧ 1 ≤ j ∧ 1 ≤ k := by omega
  obtain ⟨hb, hg, hs⟩ := alloc1 W #[.int .i64 0] 3
  have HB := Lib.hid hb
  have HW := Lib.hid (show SwI (W.alloc (.cells #[.int .i64 0] 3)) (W.alloc (.cells #[.int .i64 0] 3)) b c d W.heap.size 0 from ⟨h.below hb, hg, Chg.refl _ _⟩)
  have hne : b ≠ W.heap.size := by have := h.lt; omega
  have HFin := Lib.hid (fun W' (hc : Chg (fun i => i = W.heap.size) (W.alloc (.cells #[.int .i64 0] 3)) W') => (show Below W.heap.size W W' from hb.trans (hc.below (fun i hi e => by omega) hb.size)))
  by_cases h50 : 50 ≤ l
  · have h50i : (50 : Int) ≤ (l : Int) := by omega
    obtain ⟨r1, e1⟩ : ∃ r, Sort.medianAdjacent Sort.ltInt d i 0 = r := ⟨_, rfl⟩
    obtain ⟨i1, i2⟩ := medAdj_in (d := d) (k := 0) in4 in5
    have HA1 := Lib.hid (fun W1 (h : SwI W1 W1 b c d W.heap.size 0) => medianAdj_any W1 b c d W.heap.size 0 i h hne in4 in5 hn (by omega))
    rw [e1] at i1 i2 HA1
    obtain ⟨r2, e2⟩ : ∃ r, Sort.medianAdjacent Sort.ltInt d j r1.2 = r := ⟨_, rfl⟩
    obtain ⟨j1, j2⟩ := medAdj_in (d := d) (k := r1.2) in8 in6
    have HA2 := Lib.hid (fun W1 (h : SwI W1 W1 b c d W.heap.size r1.2) => medianAdj_any W1 b c d W.heap.size r1.2 j h hne in8 in6 hn (by omega))
    rw [e2] at j1 j2 HA2
    obtain ⟨r3, e3⟩ : ∃ r, Sort.medianAdjacent Sort.ltInt d k r2.2 = r := ⟨_, rfl⟩
    obtain ⟨k1, k2⟩ := medAdj_in (d := d) (k := r2.2) in9 in7
    have HA3 := Lib.hid (fun W1 (h : SwI W1 W1 b c d W.heap.size r2.2) => medianAdj_any W1 b c d W.heap.size r2.2 k h hne in9 in7 hn (by omega))
    rw [e3] at k1 k2 HA3
    obtain ⟨m, e4⟩ : ∃ r, Sort.median Sort.ltInt d r1.1 r2.1 r3.1 r3.2 = r := ⟨_, rfl⟩
    obtain ⟨m1, m2⟩ := median_in (d := d) (k := r3.2) i1 j1 k1
    have HA4 := Lib.hid (fun W1 (h : SwI W1 W1 b c d W.heap.size r3.2) => median_any W1 b c d W.heap.size r3.2 r1.1 r2.1 r3.1 h hne i1 j1 k1 hn (by omega))
    rw [e4] at m1 m2 HA4
    have HC := Lib.hid (pivot_big (d := d) (a := a) (e := e) (by omega) (by rw [hle, hq0]; exact hi0) (by rw [hle, hq0]; exact hj0) (by rw [hle, hq0]; exact hk0) e1 e2 e3 e4)
    obtain ⟨r11, r12⟩ := r1
    obtain ⟨r21, r22⟩ := r2
    obtain ⟨r31, r32⟩ := r3
    obtain ⟨mi, ms⟩ := m
    simp only at m2 HA1 HA2 HA3 HA4 HC i2 j2 k2
    have hms : ms ≤ 100 := by omega
    clear e1 e2 e3 e4 i1 i2 j1 j2 k1 k2 m1 m2 in1 in2 in3 in4 in5 in6 in7 in8 in9 h hi0 hj0 hk0 hq0 hle hb hg hs
    go_enter Try.func85, Try.ntmps85
    go_wp2_with fail
    generalize W.alloc (.cells #[.int .i64 0] 3) = w1 at HW HFin ⊢
    refine (HA1.out _ HW.out).mono ?_
    rintro r w2 ⟨rfl, h2⟩
    have H2 := Lib.hid h2
    clear h2
    go_wp2_with fail
    refine (HA2.out _ H2.out.here).mono ?_
    rintro r w3 ⟨rfl, h3⟩
    have H3 := Lib.hid (H2.out.trans h3)
    clear h3
    go_wp2_with fail
    refine (HA3.out _ H3.out.here).mono ?_
    rintro r w4 ⟨rfl, h4⟩
    have H4 := Lib.hid (H3.out.trans h4)
    clear h4
    go_wp2_with fail
    refine (HA4.out _ H4.out.here).mono ?_
    rintro r w5 ⟨rfl, h5⟩
    have H9 := Lib.hid (H4.out.trans h5)
    clear h5 HA1 HA2 HA3 HA4 H2 H3 H4
    obtain ⟨c0, _⟩ := cells1 H9.out.sw
    by_cases z0 : ms = 0
    · subst z0
      rw [show ((0 : Nat) : Int) = 0 from rfl] at c0
      go_wp2_with fail
      try simp only [Exit.inBlock, Exit.then]
      exact bodyPost_ret (results_tmp2 rfl _ _ _) rfl ⟨by rw [HC.out]; rfl, HFin.out _ H9.out.chg⟩
    · by_cases z12 : ms = 12
      · subst z12
        rw [show ((12 : Nat) : Int) = 12 from rfl] at c0
        go_wp2_with fail
        try simp only [Exit.inBlock, Exit.then]
        exact bodyPost_ret (results_tmp2 rfl _ _ _) rfl ⟨by rw [HC.out]; rfl, HFin.out _ H9.out.chg⟩
      · have b0 : ((ms : Int) == 0) = false := by rw [beq_eq_false_iff_ne]; omega
        have b12 : ((ms : Int) == 12) = false := by rw [beq_eq_false_iff_ne]; omega
        have HX := Lib.hid (show hintS ms = .unknown by unfold hintS; rw [if_neg z0, if_neg z12])
        clear z0 z12
        go_wp2_with fail
        try simp only [Exit.inBlock, Exit.then]
        exact bodyPost_ret (results_tmp2 rfl _ _ _) rfl ⟨by rw [HC.out]; simp only; rw [HX.out]; rfl, HFin.out _ H9.out.chg⟩
  · have h50i : ¬ (50 : Int) ≤ (l : Int) := by omega
    obtain ⟨m, e4⟩ : ∃ r, Sort.median Sort.ltInt d i j k 0 = r := ⟨_, rfl⟩
    obtain ⟨m1, m2⟩ := median_in (d := d) (k := 0) in1 in2 in3
    have HA4 := Lib.hid (fun W1 (h : SwI W1 W1 b c d W.heap.size 0) => median_any W1 b c d W.heap.size 0 i j k h hne in1 in2 in3 hn (by omega))
    rw [e4] at m1 m2 HA4
    have HC := Lib.hid (pivot_small (d := d) (a := a) (e := e) (by omega) (by omega) (by rw [hle, hq0]; exact hi0) (by rw [hle, hq0]; exact hj0) (by rw [hle, hq0]; exact hk0) e4)
    obtain ⟨mi, ms⟩ := m
    simp only at m2 HA4 HC
    have hms : ms ≤ 100 := by omega
    clear e4 m1 m2 in1 in2 in3 in4 in5 in6 in7 in8 in9 h hi0 hj0 hk0 hq0 hle hb hg hs
    go_enter Try.func85, Try.ntmps85
    go_wp2_with fail
    generalize W.alloc (.cells #[.int .i64 0] 3) = w1 at HW HFin ⊢
    refine (HA4.out _ HW.out).mono ?_
    rintro r w5 ⟨rfl, h5⟩
    have H9 := Lib.hid h5
    clear h5 HA4
    obtain ⟨c0, _⟩ := cells1 H9.out.sw
    by_cases z0 : ms = 0
    · subst z0
      rw [show ((0 : Nat) : Int) = 0 from rfl] at c0
      go_wp2_with fail
      try simp only [Exit.inBlock, Exit.then]
      exact bodyPost_ret (results_tmp2 rfl _ _ _) rfl ⟨by rw [HC.out]; rfl, HFin.out _ H9.out.chg⟩
    · by_cases z12 : ms = 12
      · subst z12
        rw [show ((12 : Nat) : Int) = 12 from rfl] at c0
        go_wp2_with fail
        try simp only [Exit.inBlock, Exit.then]
        exact bodyPost_ret (results_tmp2 rfl _ _ _) rfl ⟨by rw [HC.out]; rfl, HFin.out _ H9.out.chg⟩
      · have b0 : ((ms : Int) == 0) = false := by rw [beq_eq_false_iff_ne]; omega
        have b12 : ((ms : Int) == 12) = false := by rw [beq_eq_false_iff_ne]; omega
        have HX := Lib.hid (show hintS ms = .unknown by unfold hintS; rw [if_neg z0, if_neg z12])
        clear z0 z12
        go_wp2_with fail
        try simp only [Exit.inBlock, Exit.then]
        exact bodyPost_ret (results_tmp2 rfl _ _ _) rfl ⟨by rw [HC.out]; simp only; rw [HX.out]; rfl, HFin.out _ H9.out.chg⟩
end Go.Proofs.Ytebcginnnjigjaa

end
