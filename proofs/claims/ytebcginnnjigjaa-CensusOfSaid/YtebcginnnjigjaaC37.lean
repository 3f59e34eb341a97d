/- The census' law: counts compared; what must come of fixed calls, computed. -/
import Derived.Test.YtebcginnnjigjaaC36
import Derived.Test.YtebcginnnjigjaaC34
import Derived.Test.YtebcginnnjigjaaC25
import Derived.Test.YtebcginnnjigjaaC15
open Go.RowKit
namespace Go.Proofs.Ytebcginnnjigjaa

section
variable {P : Program} {W : World}
theorem eqItems_same {e : TypeId} (he : P.underlying e = some (.int .i64)) (hp : P.plainKey e = true) (d : Nat) (xs : Array Value) : ∀ is : List Nat, (∀ i ∈ is, ∃ x : Int, xs[i]? = some (.int .i64 x)) → (Op.eqItems (d + 1) e 1 xs xs is).run P W = .ok true W
  | [], _ => by simp [Op.eqItems]
  | i :: is, h => by
    obtain ⟨x, hx⟩ := h i (List.mem_cons_self ..)
    have ih := eqItems_same he hp d xs is (fun j hj => h j (List.mem_cons_of_mem _ hj))
    have p0 : (part e xs i).run P W = .ok (.int .i64 x) W := run_part_plain W hp hx
    simp only [Op.eqItems, Sem.run_bind, Nat.mul_one, p0, Result.andThen_ok, run_equalIn_int W d e .i64 .i64 x x he, beq_self_eq_true, Bool.not_true, Bool.false_eq_true, if_false]
    exact ih
theorem info_of {e : TypeId} {c : Nat} (h : (P.info? e).map (·.size) = some c) : ∃ i, P.info? e = some i ∧ i.size = c := by
  cases hi : P.info? e with
  | none => rw [hi] at h; cases h
  | some i => rw [hi] at h; exact ⟨i, rfl, by simpa using h⟩
theorem eqArr_same {t e : TypeId} {n : Nat} (hu : P.underlying t = some (.array n e)) (he : P.underlying e = some (.int .i64)) (hp : P.plainKey e = true) (hc : P.cellsOf e = 1) (hi : (P.info? e).map (·.size) = some 1) (d : Nat) (xs : Array Value) (h : ∀ i, i < n → ∃ x : Int, xs[i]? = some (.int .i64 x)) :
    (Op.equalIn (d + 2) t (.agg xs) (.agg xs)).run P W = .ok true W := by
  obtain ⟨i, h1, h2⟩ := info_of hi
  rw [show d + 2 = (d + 1) + 1 from rfl, run_equalIn_array W (d + 1) _ _ hu h1, hc]
  exact eqItems_same he hp d xs _ (fun j hj => h j (List.mem_range.1 hj))
theorem run_part_arr {t e : TypeId} {n c : Nat} (hu : P.underlying t = some (.array n e)) (hc : P.cellsOf t = c) (hi : (P.info? t).map (·.size) = some c) (xs : Array Value) (off : Nat) : (part t xs off).run P W = .ok (.agg (xs.extract off (off + c))) W := by
  obtain ⟨i, h1, h2⟩ := info_of hi
  simp [part, isAgg, run_underlying hu, run_sizeOf W h1, hc]
end
theorem fields_cen : ∃ f0 f1 f2 f3 : Field, (Try.prog.fieldsOf 33).toList = [f0, f1, f2, f3] ∧ f0.name ≠ "_" ∧ f1.name ≠ "_" ∧ f2.name ≠ "_" ∧ f3.name ≠ "_" ∧ f0.type = 29 ∧ f1.type = 30 ∧ f2.type = 3 ∧ f3.type = 3 ∧ f0.offset = 0 ∧ f1.offset = 2 ∧ f2.offset = 10 ∧ f3.offset = 11 := by
  simp only [Program.fieldsOf, Try.underlying33]
  exact ⟨_, _, _, _, rfl, by decide, by decide, by decide, by decide, rfl, rfl, rfl, rfl, rfl, rfl, rfl, rfl⟩
def cen0 : Array Value := #[.int .i64 0, .int .i64 0, .int .i64 0, .int .i64 0, .int .i64 0, .int .i64 0, .int .i64 0, .int .i64 0, .int .i64 0, .int .i64 0, .int .i64 0, .int .i64 0]
theorem eql_cen (W : World) : (binOp .eql 33 (.agg cen0) (.agg cen0)).run Try.prog W = .ok (.bool true) W := by
  rw [run_eql_struct, show (10000 : Nat) = 9999 + 1 from rfl, run_equalIn_struct W 9999 33 _ _ (by kernel_rfl) (by kernel_rfl)]
  obtain ⟨f0, f1, f2, f3, hf, n0, n1, n2, n3, t0, t1, t2, t3, o0, o1, o2, o3⟩ := fields_cen
  rw [hf]
  have e2 : (part f0.type cen0 f0.offset).run Try.prog W = .ok (.agg #[.int .i64 0, .int .i64 0]) W := by
    rw [t0, o0]; exact run_part_arr (n := 2) (c := 2) Try.underlying29 (by kernel_rfl) (by kernel_rfl) cen0 0
  have e8 : (part f1.type cen0 f1.offset).run Try.prog W = .ok (.agg #[.int .i64 0, .int .i64 0, .int .i64 0, .int .i64 0, .int .i64 0, .int .i64 0, .int .i64 0, .int .i64 0]) W := by
    rw [t1, o1]; exact run_part_arr (n := 8) (c := 8) Try.underlying30 (by kernel_rfl) (by kernel_rfl) cen0 2
  have e10 : (part f2.type cen0 f2.offset).run Try.prog W = .ok (.int .i64 0) W := by rw [t2, o2]; exact run_part_plain W (by kernel_rfl) rfl
  have e11 : (part f3.type cen0 f3.offset).run Try.prog W = .ok (.int .i64 0) W := by rw [t3, o3]; exact run_part_plain W (by kernel_rfl) rfl
  have h := eqF_cons (d := 9999) n0 e2 e2 (r1 := true) (by
      rw [t0]; exact eqArr_same Try.underlying29 Try.underlying3 (by kernel_rfl) (by kernel_rfl) (by kernel_rfl) 9997 _ (fun i hi => by
        have : i = 0 ∨ i = 1 := by omega
        rcases this with rfl | rfl <;> exact ⟨0, rfl⟩))
    (eqF_cons n1 e8 e8 (r1 := true) (by
      rw [t1]; exact eqArr_same Try.underlying30 Try.underlying3 (by kernel_rfl) (by kernel_rfl) (by kernel_rfl) 9997 _ (fun i hi => by
        have : i = 0 ∨ i = 1 ∨ i = 2 ∨ i = 3 ∨ i = 4 ∨ i = 5 ∨ i = 6 ∨ i = 7 := by omega
        rcases this with rfl | rfl | rfl | rfl | rfl | rfl | rfl | rfl <;> exact ⟨0, rfl⟩))
    (eqF_cons n2 e10 e10 (by rw [t2]; exact run_equalIn_int W 9998 _ _ _ _ _ Try.underlying3)
    (eqF_cons n3 e11 e11 (by rw [t3]; exact run_equalIn_int W 9998 _ _ _ _ _ Try.underlying3) eqF_nil)))
  rw [h, Result.andThen_ok]
  rfl
theorem eql_two (W : World) : (binOp .eql 29 (.agg #[.int .i64 1, .int .i64 1]) (.agg #[.int .i64 1, .int .i64 1])).run Try.prog W = .ok (.bool true) W := by
  rw [run_eql_struct, show (10000 : Nat) = 9998 + 2 from rfl, eqArr_same Try.underlying29 Try.underlying3 (by kernel_rfl) (by kernel_rfl) (by kernel_rfl) 9998 _ (fun i hi => by
        have : i = 0 ∨ i = 1 := by omega
        rcases this with rfl | rfl <;> exact ⟨1, rfl⟩), Result.andThen_ok]

theorem bump_small {cv : List Int} {j : Nat} {d x : Int} (hx : cv.getD j 0 = x) (h : -9223372036854775808 ≤ x + d ∧ x + d ≤ 9223372036854775807) : bump cv j d = cv.set j (x + d) := by
  unfold bump
  have e : wrap64 (x + d) = x + d := by unfold wrap64; omega
  rw [hx, e]
def fq : Fr := ⟨7, 3, 0, 0, 0, 0, 0, 0, 0, ⟨#[]⟩, []⟩
theorem fq_ok : FrOk fq ∧ putOk fq = true ∧ (bodyL fq).length = 0 := by
  refine ⟨⟨by decide, by decide, by decide, by decide⟩, ?_, rfl⟩
  unfold putOk
  rw [show bodyW fq = false from rfl, show told fq = fq from rfl, (alikeB_iff fq fq).2 rfl]
  rfl
theorem fq_len : (putL fq).length = 27 := by rw [putL_length fq_ok.2.1, fq_ok.2.2]
def sQ : ByteArray := ⟨(putL fq).toArray⟩
def sX : ByteArray := ⟨[120].toArray⟩
theorem sQ_size : sQ.size = 27 := by rw [← bl_length, sQ, bl_mk, fq_len]
theorem sX_size : sX.size = 1 := rfl
theorem sQ_get : getE (bl sQ) = 0 ∧ getX (bl sQ) = fq := by rw [sQ, bl_mk]; exact get_put fq_ok.1 fq_ok.2.1
theorem sX_get : getE (bl sX) = 7 := getE_1 (by rw [bl_length, sX_size]; decide)
def cnC : Array Value := #[.int .i64 1, .int .i64 1, .int .i64 0, .int .i64 0, .int .i64 0, .int .i64 0, .int .i64 0, .int .i64 0, .int .i64 0, .int .i64 1, .int .i64 1, .int .i64 28]
def cn1 : Nt := ⟨1, 0, 0, [(1, sQ)]⟩
def cn2 : Nt := ⟨2, 0, 0, [(1, sQ), (0, sX)]⟩
theorem cn1_is : sendE Nt.none 1 = 0 ∧ sendN Nt.none 1 ⟨(putL fq).toArray⟩ = cn1 := ⟨rfl, rfl⟩
theorem cn2_is : sendE cn1 0 = 0 ∧ sendN cn1 0 ⟨[120].toArray⟩ = cn2 := ⟨rfl, rfl⟩
theorem cn_ok : Nt.none.ok ∧ cn1.ok ∧ cn2.ok := by exact ⟨by unfold Nt.ok; decide, by unfold Nt.ok cn1; simp, by unfold Nt.ok cn2; simp⟩
theorem cn2_pk : PkOk cn2.ps := by
  intro p hp
  simp only [cn2, List.mem_cons, List.not_mem_nil, or_false] at hp
  rcases hp with rfl | rfl
  · exact ⟨.inr rfl, by rw [sQ_size]; decide⟩
  · exact ⟨.inl rfl, by rw [sX_size]; decide⟩
theorem ofL_cn2 : ofL cn2.ps = [1, 1, 0, 0, 0, 0, 0, 0, 0, 1, 1, 28] := by
  have e1 : ofStep ofZero (1, sQ) = [0, 1, 0, 0, 0, 0, 0, 0, 0, 1, 0, 27] := by
    unfold ofStep
    rw [if_pos sQ_get.1, sQ_get.2, sQ_size]
    rw [bump_small (cv := ofZero) (j := (1 : Int).toNat) (x := 0) rfl (by decide), show ofZero.set (1 : Int).toNat (0 + 1) = [0, 1, 0, 0, 0, 0, 0, 0, 0, 0, 0, 0] from rfl]
    rw [bump_small (j := 11) (x := 0) rfl (by decide), bump_small (x := 0) rfl (by decide)]
    rfl
  have e2 : ofStep [0, 1, 0, 0, 0, 0, 0, 0, 0, 1, 0, 27] (0, sX) = [1, 1, 0, 0, 0, 0, 0, 0, 0, 1, 1, 28] := by
    unfold ofStep
    rw [if_neg (by rw [sX_get]; decide), sX_size]
    rw [bump_small (j := (0 : Int).toNat) (x := 0) rfl (by decide), show [0, 1, 0, 0, 0, 0, 0, 0, 0, 1, 0, 27].set (0 : Int).toNat ((0 : Int) + 1) = [1, 1, 0, 0, 0, 0, 0, 0, 0, 1, 0, 27] from rfl]
    rw [bump_small (j := 11) (x := 27) rfl (by decide), bump_small (x := 0) rfl (by decide)]
    rfl
  show ofStep (ofStep ofZero (1, sQ)) (0, sX) = _
  rw [e1, e2]
theorem cvC_cn2 : cvC (ofL cn2.ps) = cnC := by rw [ofL_cn2]; rfl
theorem ses_cn2 : sesL (framesL cn2.ps) = [3] := by
  have h1 : frameOf (1, sQ) = some fq := by unfold frameOf; rw [if_pos sQ_get.1, sQ_get.2]
  have h2 : frameOf (0, sX) = none := by unfold frameOf; rw [if_neg (by rw [sX_get]; decide)]
  unfold framesL cn2
  simp only [List.filterMap_cons, h1, h2, List.filterMap_nil]
  rfl
theorem fin_one {ys : List Int} (h : finU [3] ys) : ys = [3] := by
  obtain ⟨_, h2, h3⟩ := h
  have h4 := (h2 3).2 (List.mem_cons_self ..)
  match ys, h3, h4 with
  | [y], _, h4 => rw [List.mem_singleton] at h4; rw [h4]
theorem keep_q : keepB 3 (1, sQ) = true := by unfold keepB; rw [sQ_get.1, sQ_get.2]; rfl
theorem keep_x : keepB 3 (0, sX) = false := by unfold keepB; rw [sX_get]; rfl
theorem clean_cn2 : gone 3 cn2.ps = 1 ∧ (cleanN 3 cn2).ps.length = 1 := by
  unfold gone cleanN cn2
  simp [keep_q, keep_x]
theorem cens_put (W : World) : Calls Try.prog 23 #[.agg #[.int .i64 7, .int .u64 3, .int .u64 0, .int .u32 0, .int .u32 0, .int .i64 0, .int .i64 0, .int .i64 0, .int .i64 0, .string ⟨#[]⟩, .slice none 0 0]] W fun e w' => ∃ A1 c1, e = .returned (.tuple #[.slice A1 27 c1, .int .i64 0]) ∧ ByteOut W w' A1 c1 (putL fq) := by
  refine (show Calls Try.prog 23 #[.agg #[.int .i64 7, .int .u64 3, .int .u64 0, .int .u32 0, .int .u32 0, .int .i64 0, .int .i64 0, .int .i64 0, .int .i64 0, .string ⟨#[]⟩, .slice none 0 0]] W _ from framePut_any W fq none 0 (Reads.nil _ _ _) (by decide) (by decide) fq_ok.1).mono ?_
  rintro e w' ⟨A1, c1, rfl, h⟩
  refine ⟨A1, c1, ?_, h⟩
  rw [fq_len]
  unfold putE
  rw [if_pos fq_ok.2.1]
  rfl
end Go.Proofs.Ytebcginnnjigjaa
