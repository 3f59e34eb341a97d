/- The first one of each place, of both lists, as a map. -/
import Derived.Test.YtjlecfckcciagaaThenMath
import Derived.Test.YtjlecfckcciagaaMix3
import Derived.Maps.StringElems
import Derived.Maps.OwnOps
open Go.RowKit Go.Maps
namespace Go.Proofs.Ytjlecfckcciagaa

/-- Places that are numbers of 64 bits; texts that are not too long. -/
def KW (l : List (Int × ByteArray)) : Prop := ∀ p ∈ l, (Lit.int .i64 p.1).wf = true ∧ p.2.size ≤ 100000
/-- The map says what the list says first. -/
def Says (D : DataW Unit) (l : List (Int × ByteArray)) : Prop := ∀ x : Int, Maps.has D (.int .i64 x) = (firstOf l x).isSome ∧ ∀ s, firstOf l x = some s → ∀ z, D.atKey (.int .i64 x) z = .lit (.string s.data.toList)
theorem Says.nil : Says (.map []) [] := fun x => ⟨rfl, fun s h => by cases h⟩
theorem firstOf_snoc (l : List (Int × ByteArray)) (p : Int × ByteArray) (k : Int) : firstOf (l ++ [p]) k = (firstOf l k).or (if p.1 = k then some p.2 else none) := by
  rw [firstOf_append]
  congr 1
theorem Says.had {D : DataW Unit} {l : List (Int × ByteArray)} {p : Int × ByteArray} (h : Says D l) (hp : Maps.has D (.int .i64 p.1) = true) : Says D (l ++ [p]) := fun x => by
  have e : firstOf (l ++ [p]) x = firstOf l x := by
    rw [firstOf_snoc]
    by_cases hx : p.1 = x
    · subst hx
      have h1 := (h p.1).1
      rw [hp] at h1
      cases h2 : firstOf l p.1 with
      | none => rw [h2] at h1; cases h1
      | some s => rfl
    · rw [if_neg hx]; simp
  rw [e]
  exact h x
theorem Says.new {D : DataW Unit} {l : List (Int × ByteArray)} {p : Int × ByteArray} (h : Says D l) (hm : IsMap D) (hp : Maps.has D (.int .i64 p.1) = false) : Says (D.put (.int .i64 p.1) (.lit (.string p.2.data.toList))) (l ++ [p]) := fun x => by
  by_cases hx : p.1 = x
  · subst hx
    have h1 := (h p.1).1
    rw [hp] at h1
    have h2 : firstOf l p.1 = none := by
      cases h2 : firstOf l p.1 with
      | none => rfl
      | some s => rw [h2] at h1; cases h1
    rw [firstOf_snoc, h2, if_pos rfl, has_put_same hm (k := .int .i64 p.1) (show WideAt.IsKeyLit _ from trivial)]
    refine ⟨rfl, fun s hs z => ?_⟩
    rw [atKey_put_same hm (k := .int .i64 p.1) (show WideAt.IsKeyLit _ from trivial)]
    have hs : p.2 = s := by simpa using hs
    rw [hs]
  · have hne : (Lit.int .i64 x) ≠ .int .i64 p.1 := fun e => hx (by injection e with _ e; exact e.symm)
    rw [firstOf_snoc, if_neg hx, has_put_other hne, Option.or_none]
    refine ⟨(h x).1, fun s hs z => ?_⟩
    rw [atKey_put_other hne]
    exact (h x).2 s hs z

theorem lawI : Keyed Try.prog 3 := int_keyed Try.underlying3
theorem zeroS (w : World) : (zeroValue 9).run Try.prog w = .ok (.string ⟨#[]⟩) w := by kernel_rfl

/-- A map of its own that says what a list says first. -/
def MapS (w : World) (B : Nat) (l : List (Int × ByteArray)) : Prop := ∃ D : DataW Unit, w.ownsMap Try.prog 3 (plainElem Try.prog 9) B l.length D ∧ Says D l
section
variable {w w1 : World} {B : Nat} {l : List (Int × ByteArray)}
theorem MapS.alloc (h : MapS w B l) (o : Obj) : MapS (w.alloc o) B l := by obtain ⟨D, h1, h2⟩ := h; exact ⟨D, h1.alloc o, h2⟩
theorem MapS.made (w : World) : MapS (w.alloc (.map #[] 0)) w.heap.size [] := ⟨.map [], World.ownsMap_made _ _ _ _, Says.nil⟩
theorem MapS.lt (h : MapS w B l) : B < w.heap.size := by obtain ⟨D, h1, _⟩ := h; exact h1.lt
end
theorem wpList_lookup_says {w : World} {ops : Array Oper} {rest : List Oper} {o : Oper} {a : Act} {Q : Exit → Act → World → Prop} (hg : o.guard = none) (m x : Operand) (hop : o.op = Op.lookup 40 m x true)
    (B : Nat) (l : List (Int × ByteArray)) (hm : a.eval m = .map (some B)) (hown : MapS w B l) (p : Int × ByteArray) (hx : a.eval x = .int .i64 p.1) (hw : (Lit.int .i64 p.1).wf = true)
    (hK : ∀ (s : ByteArray), wpList Try.prog ops Q rest (a.put o.dst (.tuple #[.string s, .bool (firstOf l p.1).isSome])) w) :
    wpList Try.prog ops Q (o :: rest) a w := by
  obtain ⟨D, h1, h2⟩ := hown
  refine wpList_lookup_own_ok w hg m x 40 hop 3 9 lawI Try.underlying40 (plainElem Try.prog 9) (zeroS w) (.lit (.string [])) [] (plainElem_string Try.underlying9 (Nat.zero_le _)) B l.length D hm h1 _ _ hx (keyOf_int_mk Try.underlying3 hw) ?_
  intro v ps hv
  obtain ⟨s, rfl, _, _⟩ := plainElem_string_inv Try.underlying9 hv
  rw [(h2 p.1).1]
  exact hK s
theorem wpList_store_says {w : World} {ops : Array Oper} {rest : List Oper} {o : Oper} {a : Act} {Q : Exit → Act → World → Prop} (hg : o.guard = none) (m x v : Operand) (hop : o.op = Op.mapUpdate 40 m x v)
    (B : Nat) (l : List (Int × ByteArray)) (hm : a.eval m = .map (some B)) (hown : MapS w B l) (hl : l.length ≤ 100000) (p : Int × ByteArray) (hx : a.eval x = .int .i64 p.1) (hv : a.eval v = .string p.2) (hw : (Lit.int .i64 p.1).wf = true ∧ p.2.size ≤ 100000) (hno : (firstOf l p.1).isSome = false)
    (hK : ∀ w', MapS w' B (l ++ [p]) → w.grownBy w' (some B) → wpList Try.prog ops Q rest (a.put o.dst undef) w') :
    wpList Try.prog ops Q (o :: rest) a w := by
  obtain ⟨D, h1, h2⟩ := hown
  refine wpList_mapUpdate_own w hg m x v 40 hop 3 9 lawI Try.underlying40 (plainElem Try.prog 9) B l.length D hm h1 (by unfold maxLen; omega) _ _ _ hx hv (keyOf_int_mk Try.underlying3 hw.1) _ [] (plainElem_string Try.underlying9 (by unfold maxLen; omega)) ?_
  intro w1 h3 h4
  exact hK w1 ⟨_, by rw [List.length_append]; exact h3, h2.new h1.isMap (by rw [(h2 p.1).1]; exact hno)⟩ h4
theorem MapS.had {w : World} {B : Nat} {l : List (Int × ByteArray)} (h : MapS w B l) (p : Int × ByteArray) (hp : (firstOf l p.1).isSome = true) : MapS w B (l ++ [p]) := by
  obtain ⟨D, h1, h2⟩ := h
  exact ⟨D, h1.mono (by rw [List.length_append]; omega), h2.had (by rw [(h2 p.1).1]; exact hp)⟩

def rowL (a b : List (Int × ByteArray)) : Nat → List (Int × ByteArray)
  | 0 => b
  | _ => a
def accL (a b : List (Int × ByteArray)) : Nat → List (Int × ByteArray)
  | 0 => []
  | 1 => b
  | _ => b ++ a
theorem acc_step (a b : List (Int × ByteArray)) : ∀ n, n < 2 → accL a b (n + 1) = accL a b n ++ rowL a b n
  | 0, _ => by simp [accL, rowL]
  | 1, _ => rfl
  | n + 2, h => by omega
theorem acc_len (a b : List (Int × ByteArray)) : ∀ n, (accL a b n).length ≤ a.length + b.length
  | 0 => by simp [accL]
  | 1 => by simp [accL]
  | n + 2 => by simp [accL]; omega

set_option maxHeartbeats 4000000 in
set_option maxRecDepth 100000 in
theorem byPlace_any (w : World) (A B : Option Addr) (a b : List (Int × ByteArray)) (c d : Nat) (hr : Reads w 2 A a.length (pks a)) (hs : Reads w 2 B b.length (pks b)) (ha : a.length ≤ 1000) (hb : b.length ≤ 1000) (ka : KW a) (kb : KW b) :
    Calls Try.prog 15 #[.slice A a.length c, .slice B b.length d] w fun e w' => e = .returned (.map (some w.heap.size)) ∧ MapS w' w.heap.size (b ++ a) ∧ Below w.heap.size w w' := by
  have Hr := Lib.hid hr
  have Hs := Lib.hid hs
  have Ka := Lib.hid ka
  have Kb := Lib.hid kb
  clear hr hs ka kb
  have hmm := @run_makeMap Try.prog
  go_enter Try.func15, Try.ntmps15
  go_wp2_with fail
  have HG := Lib.hid (show ((w.alloc (.map #[] 0)).alloc (.cells #[.slice B b.length d, .slice A a.length c] 23)).heap[w.heap.size + 1]? = some (.cells #[.slice B b.length d, .slice A a.length c] 23 (0, 0)) from by
    have h := heap_alloc_new (w.alloc (.map #[] 0)) (.cells #[.slice B b.length d, .slice A a.length c] 23)
    rwa [size_alloc] at h)
  have HM0 := Lib.hid ((MapS.made w).alloc (.cells #[.slice B b.length d, .slice A a.length c] 23))
  have HB0 := Lib.hid (((Below.refl w.heap.size w).alloc (Nat.le_refl _) (.map #[] 0)).alloc (by rw [size_alloc]; omega) (.cells #[.slice B b.length d, .slice A a.length c] 23))
  clear hmm
  go_loopw [17] (fun i wr => ∃ n : Nat, n ≤ 2 ∧ i = .int .i64 n ∧ Hid (MapS wr w.heap.size (accL a b n)) ∧ Hid (wr.heap[w.heap.size + 1]? = some (.cells #[.slice B b.length d, .slice A a.length c] 23 (0, 0))) ∧ Hid (Below w.heap.size w wr)) (fun i _ => 2 - (intOf i).toNat)
  case atStart => exact ⟨0, by omega, rfl, HM0, HG, HB0⟩
  case round =>
    clear HG HM0 HB0
    obtain ⟨n, hn, rfl, HM, HG, HB⟩ := hrel
    obtain ⟨wo, rfl⟩ : ∃ wo : World, wo = wr := ⟨_, rfl⟩
    by_cases hlt : n < 2
    · have HL : Hid (∃ (E : Option Addr) (ec : Nat), wo.cell? ⟨w.heap.size + 1, n, none⟩ = some (.slice E (rowL a b n).length ec) ∧ Reads w 2 E (rowL a b n).length (pks (rowL a b n)) ∧ KW (rowL a b n) ∧ (rowL a b n).length ≤ 1000) := Lib.hid (by
        obtain rfl | rfl : n = 0 ∨ n = 1 := by omega
        · exact ⟨B, d, (cells2 HG.out).1, Hs.out, Kb.out, hb⟩
        · exact ⟨A, c, (cells2 HG.out).2.1, Hr.out, Ka.out, ha⟩)
      obtain ⟨E, ec, hE, hRe, hKe, hLe⟩ := HL.out
      have HRe := Lib.hid hRe
      have HKe := Lib.hid hKe
      have HS := Lib.hid (acc_step a b n hlt)
      have HSl := Lib.hid (acc_len a b n)
      clear HL hRe hKe
      generalize rowL a b n = L at *
      generalize accL a b n = pre at HM HS HSl
      go_wp2_with fail
      generalize decide ((n : Int) < 2) = b18
      go_loopw [23] (fun i wr => ∃ k : Nat, k ≤ L.length ∧ i = .int .i64 k ∧ Hid (MapS wr w.heap.size (pre ++ L.take k)) ∧ Hid (wr.heap[w.heap.size + 1]? = some (.cells #[.slice B b.length d, .slice A a.length c] 23 (0, 0))) ∧ Hid (Below w.heap.size w wr)) (fun i _ => L.length - (intOf i).toNat)
      case atStart => exact ⟨0, by omega, rfl, Lib.hid (by rw [List.take_zero, List.append_nil]; exact HM.out), HG, HB⟩
      case round =>
        clear HG HB HM hE
        obtain ⟨k, hk, rfl, HM, HG, HB⟩ := hrel
        by_cases hkl : k < L.length
        · obtain ⟨ad, rfl, d0, d1⟩ := put_cells (HRe.out.below HB.out) hkl
          have HW := Lib.hid (HKe.out _ (List.getElem_mem hkl))
          have HT := Lib.hid (show L.take (k + 1) = L.take k ++ [L[k]] from by rw [List.take_add_one, List.getElem?_eq_getElem hkl]; rfl)
          have HPl := Lib.hid (show (pre ++ L.take k).length ≤ 100000 from by rw [List.length_append, List.length_take]; have := HSl.out; omega)
          generalize L[k] = p at d0 d1 HW HT
          obtain ⟨x, s⟩ := p
          simp only at d0 d1 HW
          obtain ⟨hb1, hg1, hs1⟩ := alloc1 wr #[.int .i64 x, .string s] 35
          have HM1 := Lib.hid (HM.out.alloc (.cells #[.int .i64 x, .string s] 35))
          have HG1 := Lib.hid ((heap_alloc_old wr (.cells #[.int .i64 x, .string s] 35) (Array.getElem?_eq_some_iff.1 HG.out).1).trans HG.out)
          have HB1 := Lib.hid (HB.out.trans (hb1.mono (B' := w.heap.size) HB.out.size))
          obtain ⟨b0, b1, _, _⟩ := cells2 hg1
          clear hb1 hg1 hs1
          cases hf : (firstOf (pre ++ L.take k) x).isSome with
          | true =>
            have HM2 := Lib.hid (HM1.out.had (x, s) hf)
            go_wp2_with (at_lookup; refine wpList_lookup_says rfl (.tmp 28) (.tmp 30) rfl w.heap.size (pre ++ L.take k) rfl HM1.out (x, s) rfl HW.out.1 ?_)
            intro sv
            clear hf
            go_wp2_with fail
            case roundEnd =>
              exact ⟨⟨k + 1, by omega, by push_cast; rfl, Lib.hid (by rw [HT.out, ← List.append_assoc]; exact HM2.out), HG1, HB1⟩, by simp only [intOf]; omega⟩
          | false =>
            have HN := Lib.hid hf
            go_wp2_with (at_lookup; refine wpList_lookup_says rfl (.tmp 28) (.tmp 30) rfl w.heap.size (pre ++ L.take k) rfl HM1.out (x, s) rfl HW.out.1 ?_)
            intro sv
            clear hf
            go_wp2_with (at_mapUpdate; refine wpList_store_says rfl (.tmp 36) (.tmp 38) (.tmp 40) rfl w.heap.size (pre ++ L.take k) rfl HM1.out HPl.out (x, s) rfl rfl HW.out HN.out ?_)
            intro w2 hm2 hg2
            have HM2 := Lib.hid hm2
            have HG2 := Lib.hid ((hg2.block (w.heap.size + 1) (Array.getElem?_eq_some_iff.1 HG1.out).1 (by simp)).trans HG1.out)
            have HB2 := Lib.hid (HB1.out.grown hg2 HB1.out.size (fun j hj => by cases hj; exact Nat.le_refl _))
            clear hm2 hg2 b0 b1 d0 d1
            go_wp2_with fail
            case roundEnd =>
              exact ⟨⟨k + 1, by omega, by push_cast; rfl, Lib.hid (by rw [HT.out]; exact HM2.out), HG2, HB2⟩, by simp only [intOf]; omega⟩
        · obtain rfl : k = L.length := by omega
          have HM2 := Lib.hid (show MapS wr w.heap.size (accL a b (n + 1)) from by rw [HS.out]; have := HM.out; rwa [List.take_length] at this)
          go_wp2_with fail
          case roundEnd =>
            exact ⟨⟨n + 1, by omega, by push_cast; rfl, HM2, HG, HB⟩, by simp only [intOf]; omega⟩
    · obtain rfl : n = 2 := by omega
      go_wp2_with fail
      go_ret
      exact ⟨rfl, HM.out, HB.out⟩
end Go.Proofs.Ytjlecfckcciagaa
