/- A frame that came in; its bulk. -/
import Derived.Test.YtcahflddafdhfaaOpen
import Derived.Test.YtcahflddafdhfaaFrMath
import Derived.Test.YtcahflddafdhfaaRows
import Derived.Deep.SlicePairs
import Derived.Lib.SmallJoins
open Go.RowKit Go.ChangeShapes Go.WideShapes
namespace Go.Proofs.Ytcahflddafdhfaa
section
variable {H : Type}
theorem bulk_map (D : Nat → DataW H) (q : Nat → ByteArray) : ∀ L : List Nat, (∀ i ∈ L, D i = .lit (.string (q i).data.toList)) → ((L.map q).flatMap bl).length + L.length ≤ Rows.uptoBulkAll (L.map D)
  | [], _ => by simp
  | i :: L, h => by
    have ih := bulk_map D q L (fun j hj => h j (List.mem_cons_of_mem _ hj))
    have hi := h i (List.mem_cons_self ..)
    rw [List.map_cons, List.map_cons, List.flatMap_cons, List.length_append, List.length_cons, hi]
    unfold Rows.uptoBulkAll
    unfold Rows.uptoBulk
    rw [bl_length]
    have : (q i).data.toList.length = (q i).size := rfl
    omega
theorem bulk_get : ∀ (L : List (DataW H)) (i : Nat) (d : DataW H), L[i]? = some d → Rows.uptoBulk d ≤ Rows.uptoBulkAll L
  | [], i, d, h => by simp at h
  | a :: L, 0, d, h => by
    have : a = d := by simpa using h
    subst this
    unfold Rows.uptoBulkAll
    omega
  | a :: L, i + 1, d, h => by
    have ih := bulk_get L i d (by simpa using h)
    unfold Rows.uptoBulkAll
    omega
theorem bulk_two : ∀ (L : List (DataW H)) (i j : Nat) (d e : DataW H), i < j → L[i]? = some d → L[j]? = some e → Rows.uptoBulk d + Rows.uptoBulk e ≤ Rows.uptoBulkAll L
  | [], i, j, d, e, _, h, _ => by simp at h
  | a :: L, 0, j + 1, d, e, _, h, h' => by
    have : a = d := by simpa using h
    subst this
    have ih := bulk_get L j e (by simpa using h')
    unfold Rows.uptoBulkAll
    omega
  | a :: L, i + 1, j + 1, d, e, hij, h, h' => by
    have ih := bulk_two L i j d e (by omega) (by simpa using h) (by simpa using h')
    unfold Rows.uptoBulkAll
    omega
variable {enc : TypeId × Value → H} {P : Program} {W : World} {base base' : Nat} {spare : Nat → Bool} {held : Bool} {t e : TypeId} {a : Option Addr} {len cap : Nat} {v : Value} {d : DataW H} {ps : List MemPlace}
theorem texts_bulk (ht : P.underlying t = some (.slice e)) (he : P.underlying e = some .string) (ce : P.cellsOf e = 1) (h : DataW.Trod enc P W base spare held t (.slice a len cap) d ps) :
    ∃ ls : List ByteArray, len = ls.length ∧ Reads W 1 a ls.length (sts ls) ∧ (ls.flatMap bl).length + ls.length ≤ Rows.uptoBulk d := by
  obtain ⟨fuel, hf⟩ := h
  rcases Go.Deep.open_slice ht hf with ⟨hcs, _⟩ | ⟨x, l, c, m, n, D, Pl, hcs, _, hl, hm, hmm, hd, hall⟩
  · simp [Value.cells] at hcs
    obtain ⟨rfl, rfl, rfl⟩ := hcs
    exact ⟨[], rfl, Reads.nil _ _ _, Nat.zero_le _⟩
  · simp [Value.cells] at hcs
    obtain ⟨rfl, rfl, rfl⟩ := hcs
    have hlm : len ≤ m := by rw [hmm]; split <;> omega
    have each : ∀ i, i < len → ∃ q : ByteArray, W.cell? (x.add i) = some (.string q) ∧ D i = .lit (.string q.data.toList) := by
      intro i hi
      obtain ⟨cs', h1, h2⟩ := hall i (by omega)
      rw [ce] at h1
      obtain ⟨_, hlen, hcell⟩ := World.cells?_some h1
      match cs', hlen with
      | [v0], _ =>
        have e0 := hcell 0 (by omega)
        rw [add_of_add] at e0
        obtain ⟨z0, q0, hz, _⟩ := DataW.trod_string he h2
        injection q0 with q0
        injection hz with hz
        exact ⟨z0, by simpa [q0] using e0, hz⟩
    obtain ⟨q, hq⟩ := Classical.axiomOfChoice (r := fun (i : Nat) (s : ByteArray) => i < len → W.cell? (x.add i) = some (.string s) ∧ D i = .lit (.string s.data.toList)) (fun i => by
      by_cases hi : i < len
      · obtain ⟨s, hs⟩ := each i hi
        exact ⟨s, fun _ => hs⟩
      · exact ⟨⟨#[]⟩, fun h => absurd h hi⟩)
    injection hd with hd
    refine ⟨(List.range len).map q, by simp, ⟨by rw [sts_length]; omega, fun _ => ⟨x, rfl, fun j u hu => ?_⟩⟩, ?_⟩
    · have hj : j < len := by
        have := (List.getElem?_eq_some_iff.1 hu).1
        rw [sts_length] at this
        simpa using this
      have g0 := sts_get ((List.range len).map q) j (by simp; omega)
      simp only [List.getElem_map, List.getElem_range] at g0
      rw [g0] at hu
      rw [← hu]
      exact (hq j hj).1
    · have hb := bulk_map D q (List.range len) (fun i hi => (hq i (List.mem_range.1 hi)).2)
      rw [hd]
      unfold Rows.uptoBulk
      rw [List.length_map]
      omega
end
set_option maxRecDepth 100000 in
theorem frame_of {H : Type} {enc : TypeId × Value → H} {W : World} {base base' : Nat} {spare : Nat → Bool} {held : Bool} {v : Value} {d : DataW H} {ps : List MemPlace}
    (hv : Value.okWide Try.prog W .any base' 41 v) (h : DataW.Trod enc Try.prog W base spare held 41 v d ps) :
    ∃ (x : Fr) (A : Option Addr) (c : Nat), v = .agg (x.cells A c) ∧ Reads W 1 A x.l.length (sts x.l) ∧ FrOk x ∧ x.d.size + (x.l.flatMap bl).length + x.l.length ≤ Rows.uptoBulk d := by
  obtain ⟨cs, rfl, hsz, _⟩ : ∃ cs, v = .agg cs ∧ cs.size = Try.prog.cellsOf 41 ∧ Row.okWide Try.prog W .any base' 41 cs := by simpa [Value.okWide, Try.underlying41] using hv
  rw [show Try.prog.cellsOf 41 = 11 from by kernel_rfl] at hsz
  obtain ⟨l⟩ := cs
  obtain ⟨fuel, hf⟩ := h
  match l, hsz with
  | [v0, v1, v2, v3, v4, v5, v6, v7, v8, v9, v10], _ =>
    obtain ⟨xs, m, _, hxy, _, hxl, hel⟩ := DataW.trod_struct Try.underlying41 hf
    have k3 : Try.prog.cellsOf 3 = 1 := by kernel_rfl
    have k64 : Try.prog.cellsOf 38 = 1 := by kernel_rfl
    have k32 : Try.prog.cellsOf 39 = 1 := by kernel_rfl
    have ks : Try.prog.cellsOf 9 = 1 := by kernel_rfl
    have kl : Try.prog.cellsOf 22 = 1 := by kernel_rfl
    match xs, hxl with
    | [y0, y1, y2, y3, y4, y5, y6, y7, y8, y9, y10], _ =>
      have g0 := hel 0 _ rfl
      have g1 := hel 1 _ rfl
      have g2 := hel 2 _ rfl
      have g3 := hel 3 _ rfl
      have g4 := hel 4 _ rfl
      have g5 := hel 5 _ rfl
      have g6 := hel 6 _ rfl
      have g7 := hel 7 _ rfl
      have g8 := hel 8 _ rfl
      have g9 := hel 9 _ rfl
      have g10 := hel 10 _ rfl
      simp [Value.cells, k3, k64, k32, ks, kl] at g0 g1 g2 g3 g4 g5 g6 g7 g8 g9 g10
      obtain ⟨n0, e0, _, _⟩ := DataW.trod_int Try.underlying3 g0
      obtain ⟨n1, e1, _, w1⟩ := DataW.trod_int Try.underlying38 g1
      obtain ⟨n2, e2, _, w2⟩ := DataW.trod_int Try.underlying38 g2
      obtain ⟨n3, e3, _, w3⟩ := DataW.trod_int Try.underlying39 g3
      obtain ⟨n4, e4, _, w4⟩ := DataW.trod_int Try.underlying39 g4
      obtain ⟨n5, e5, _, _⟩ := DataW.trod_int Try.underlying3 g5
      obtain ⟨n6, e6, _, _⟩ := DataW.trod_int Try.underlying3 g6
      obtain ⟨n7, e7, _, _⟩ := DataW.trod_int Try.underlying3 g7
      obtain ⟨n8, e8, _, _⟩ := DataW.trod_int Try.underlying3 g8
      obtain ⟨s9, e9, hy9, _⟩ := DataW.trod_string Try.underlying9 g9
      obtain ⟨A, lenA, c, e10⟩ := Go.Joins.slice_form Try.underlying22 g10
      injection e0 with e0
      injection e1 with e1
      injection e2 with e2
      injection e3 with e3
      injection e4 with e4
      injection e5 with e5
      injection e6 with e6
      injection e7 with e7
      injection e8 with e8
      injection e9 with e9
      injection e10 with e10
      subst e10
      obtain ⟨L, hL, hR, hB⟩ := texts_bulk (enc := enc) (W := W) (base := base) (spare := spare) (held := held) (d := y10.1) (ps := y10.2) Try.underlying22 Try.underlying9 ks ⟨_, g10⟩
      obtain ⟨m1, rfl, b1⟩ := nat_of_u64 w1
      obtain ⟨m2, rfl, b2⟩ := nat_of_u64 w2
      have u3 := U32.of_wf w3
      have u4 := U32.of_wf w4
      obtain ⟨m3, rfl⟩ := Int.eq_ofNat_of_zero_le u3.1
      obtain ⟨m4, rfl⟩ := Int.eq_ofNat_of_zero_le u4.1
      have b3 : m3 < 4294967296 := by have := u3.2; omega
      have b4 : m4 < 4294967296 := by have := u4.2; omega
      refine ⟨⟨n0, m1, m2, m3, m4, n5, n6, n7, n8, s9, L⟩, A, c, ?_, hR, ⟨b1, b2, b3, b4⟩, ?_⟩
      · subst hL
        rw [e0, e1, e2, e3, e4, e5, e6, e7, e8, e9]
        rfl
      · injection hxy with hd hp
        subst hd
        have h2 := bulk_two [y0.1, y1.1, y2.1, y3.1, y4.1, y5.1, y6.1, y7.1, y8.1, y9.1, y10.1] 9 10 _ _ (by decide) rfl rfl
        have h3 : y9.1 = .lit (.string s9.data.toList) := by rw [hy9]
        have h4 : Rows.uptoBulk y9.1 = s9.size + 1 := by
          rw [h3]
          unfold Rows.uptoBulk
          rfl
        show s9.size + (L.flatMap bl).length + L.length ≤ Rows.uptoBulk (.agg [y0.1, y1.1, y2.1, y3.1, y4.1, y5.1, y6.1, y7.1, y8.1, y9.1, y10.1])
        have h5 : Rows.uptoBulk (.agg [y0.1, y1.1, y2.1, y3.1, y4.1, y5.1, y6.1, y7.1, y8.1, y9.1, y10.1] : DataW H) = Rows.uptoBulkAll [y0.1, y1.1, y2.1, y3.1, y4.1, y5.1, y6.1, y7.1, y8.1, y9.1, y10.1] + 1 := by rw [Rows.uptoBulk]
        omega
end Go.Proofs.Ytcahflddafdhfaa
