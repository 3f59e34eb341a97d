/- Arks: texts of which one is no sector; what an image is as bytes. -/
import Derived.Test.YtcahflddafdhfaaArk2
import Derived.Test.YtcahflddafdhfaaAppStr
import Derived.Test.YtcahflddafdhfaaConv
import Derived.Test.YtcahflddafdhfaaWord
import Derived.Test.YtcahflddafdhfaaCrc

open Go.RowKit
namespace Go.Proofs.Ytcahflddafdhfaa

theorem drop_at {α : Type} {l : List α} {k : Nat} (hk : k < l.length) : l.drop k = l[k] :: l.drop (k + 1) := List.drop_eq_getElem_cons hk
def oddB (l : List ByteArray) : Bool := l.any fun s => !rightS s
theorem oddB_cons (s : ByteArray) (l : List ByteArray) : oddB (s :: l) = (!rightS s || oddB l) := rfl
theorem arkClosure_any (s : ByteArray) (w : World) : Calls Try.prog 29 #[.string s] w fun e w' => e = .returned (.bool (!rightS s)) ∧ w = w' := by
  have HS := Lib.hid (secRight_any s w)
  go_enter Try.func29, Try.ntmps29
  go_wp2_with fail
  refine HS.out.mono ?_
  rintro e w1 ⟨rfl, rfl⟩
  go_wp2_with fail
  go_ret
  exact ⟨rfl, rfl⟩
set_option maxHeartbeats 1000000 in
set_option maxRecDepth 100000 in
theorem arkIndex_any (w : World) (A : Option Addr) (l : List ByteArray) (c : Nat) (hr : Reads w 1 A l.length (sts l)) (hl : l.length ≤ 100000) :
    Calls Try.prog 51 #[.slice A l.length c, .func (.func 29) #[] #[]] w fun e w' => ∃ r : Int, e = .returned (.int .i64 r) ∧ decide (0 ≤ r) = oddB l ∧ w = w' := by
  have Hr := Lib.hid hr
  clear hr
  go_enter Try.func51, Try.ntmps51
  go_wp2_with fail
  go_loopw [8] (fun i wr => ∃ k : Nat, k ≤ l.length ∧ i = .int .i64 k ∧ Hid (oddB (l.drop k) = oddB l) ∧ Hid (w = wr)) (fun i _ => l.length - (intOf i).toNat)
  case atStart => exact ⟨0, Nat.zero_le _, rfl, Lib.hid rfl, Lib.hid rfl⟩
  case round =>
    obtain ⟨k, hk, rfl, HO, Hw⟩ := hrel
    have hw := Hw.out
    subst hw
    by_cases hlt : k < l.length
    · obtain ⟨ad, rfl, d0⟩ := str_cell Hr.out hlt
      rw [drop_at hlt, oddB_cons] at HO
      generalize l[k] = s at d0 HO
      have HS := Lib.hid (arkClosure_any s w)
      cases h3 : rightS s with
      | false =>
        rw [h3] at HS HO
        clear h3
        go_wp2_with fail
        refine HS.out.mono ?_
        rintro e w3 ⟨rfl, rfl⟩
        go_wp2_with fail
        go_ret
        exact ⟨k, rfl, by rw [← HO.out, decide_eq_true (by omega)]; rfl, rfl⟩
      | true =>
        rw [h3] at HS HO
        clear h3
        go_wp2_with fail
        refine HS.out.mono ?_
        rintro e w3 ⟨rfl, rfl⟩
        go_wp2_with fail
        case roundEnd =>
          exact ⟨⟨k + 1, by omega, by push_cast; rfl, Lib.hid (by have := HO.out; simpa using this), Lib.hid (by trivial)⟩, by simp only [intOf]; omega⟩
    · obtain rfl : k = l.length := by omega
      go_wp2_with fail
      go_ret
      exact ⟨-1, rfl, by rw [← HO.out, List.drop_length]; rfl, rfl⟩
theorem arkContains_any (w : World) (A : Option Addr) (l : List ByteArray) (c : Nat) (hr : Reads w 1 A l.length (sts l)) (hl : l.length ≤ 100000) :
    Calls Try.prog 28 #[.slice A l.length c, .func (.func 29) #[] #[]] w fun e w' => e = .returned (.bool (oddB l)) ∧ w = w' := by
  have HI := Lib.hid (arkIndex_any w A l c hr hl)
  clear hr
  go_enter Try.func28, Try.ntmps28
  go_wp2_with fail
  refine HI.out.mono ?_
  rintro e w1 ⟨r, rfl, hr, rfl⟩
  have Hr := Lib.hid hr
  clear hr
  go_wp2_with fail
  go_ret
  exact ⟨by rw [← Hr.out]; rfl, rfl⟩
/-! ### an image as bytes -/
def runBytes (rs : List (ByteArray × Nat)) : List UInt8 := rs.flatMap fun x => be 1 x.2 ++ bl x.1
def arkMark : List UInt8 := [65, 82, 75, 49]
def arkBody (l : List ByteArray) : List UInt8 := arkMark ++ be 2 l.length ++ runBytes (runsOf l)
def packE (l : List ByteArray) : Nat := if 128 < l.length then 8 else if oddB l = true then 4 else 0
def packL (l : List ByteArray) : List UInt8 := if packE l = 0 then arkBody l ++ be 4 (crcAdd 0 (arkBody l)) else []
theorem runBytes_snoc (rs : List (ByteArray × Nat)) (x : ByteArray × Nat) : runBytes (rs ++ [x]) = runBytes rs ++ be 1 x.2 ++ bl x.1 := by
  unfold runBytes
  rw [List.flatMap_append]
  show _ ++ ((be 1 x.2 ++ bl x.1) ++ []) = _
  rw [List.append_nil, List.append_assoc]
theorem runBytes_length (rs : List (ByteArray × Nat)) (h : ∀ x ∈ rs, x.1.size ≤ 64) : (runBytes rs).length ≤ 65 * rs.length := by
  induction rs with
  | nil => simp [runBytes]
  | cons a rs ih =>
    have h1 := ih (fun x hx => h x (List.mem_cons_of_mem _ hx))
    have h2 := h a (List.mem_cons_self ..)
    have e : runBytes (a :: rs) = (be 1 a.2 ++ bl a.1) ++ runBytes rs := rfl
    rw [e, List.length_append, List.length_append, be_length, bl_length, List.length_cons]
    omega
theorem runsOf_mem : ∀ (l : List ByteArray) (x : ByteArray × Nat), x ∈ runsOf l → x.1 ∈ l ∧ 1 ≤ x.2 ∧ x.2 ≤ l.length := by
  have key : ∀ (n : Nat) (l : List ByteArray), l.length ≤ n → ∀ x : ByteArray × Nat, x ∈ runsOf l → x.1 ∈ l ∧ 1 ≤ x.2 ∧ x.2 ≤ l.length := by
    intro n
    induction n with
    | zero =>
      intro l h x hx
      have h0 : l = [] := List.eq_nil_of_length_eq_zero (by omega)
      subst h0
      rw [runsOf_nil] at hx
      cases hx
    | succ n ih =>
      intro l h x hx
      cases l with
      | nil => rw [runsOf_nil] at hx; cases hx
      | cons y l =>
        rw [runsOf_cons] at hx
        rw [List.length_cons] at h
        rcases List.mem_cons.1 hx with e | e
        · subst e
          have := lead_le y l
          exact ⟨List.mem_cons_self .., by simp, by rw [List.length_cons]; simpa using this⟩
        · obtain ⟨h1, h2, h3⟩ := ih _ (by rw [List.length_drop]; omega) x e
          rw [List.length_drop] at h3
          exact ⟨List.mem_cons_of_mem _ (List.mem_of_mem_drop h1), h2, by rw [List.length_cons]; omega⟩
  exact fun l => key l.length l (Nat.le_refl _)
theorem oddB_no {l : List ByteArray} (h : oddB l = false) : ∀ s ∈ l, s.size = 64 := fun s hs => by
  unfold oddB at h
  have h5 := List.any_eq_false.1 h s hs
  have h6 : rightS s = true := by simpa using h5
  exact of_decide_eq_true h6
theorem BRow.putObj {w : World} {A : Option Addr} {c : Nat} {L : List UInt8} (h : BRow w A c L) {l : Nat} {o : Obj} (hl : w.heap[l]? = some o) (ho : o.isCells = false) (o' : Obj) : BRow (w.putObj l o') A c L := by
  refine ⟨h.1, ?_⟩
  rcases h.2 with h2 | ⟨g, cap, cur, hv, h1, h2, h3⟩
  · exact .inl h2
  · refine .inr ⟨g, cap, cur, hv, h1, (World.putObj_heap_other (fun e => ?_)).trans h2, h3⟩
    subst e
    rw [hl] at h2
    injection h2 with h2
    subst h2
    cases ho
end Go.Proofs.Ytcahflddafdhfaa
