/- Reading a frame: the reader's steps, and the closures of frame.read. -/
import Derived.Test.YtcahflddafdhfaaFr5
import Derived.Test.YtcahflddafdhfaaReaderB
import Derived.Test.YtcahflddafdhfaaConv
open Go.RowKit
namespace Go.Proofs.Ytcahflddafdhfaa

theorem gNum_lt (l : List UInt8) (a : Int) (k : Nat) : gNum l a (k : Int) < 256 ^ k := by
  unfold gNum
  split
  · have h := beNum_lt ((l.drop a.toNat).take (k : Int).toNat)
    refine Nat.lt_of_lt_of_le h (Nat.pow_le_pow_right (by decide) ?_)
    simp
    omega
  · exact Nat.pow_pos (by decide)
theorem rNum_lt (l : List UInt8) (e : Nat) (k : Nat) : rNum l e (k : Int) < 256 ^ k := by
  unfold rNum
  split
  · exact gNum_lt l 0 k
  · exact Nat.pow_pos (by decide)
theorem wrapI_nat {n : Nat} (h : n < 9223372036854775808) : IntKind.i64.wrap (n : Int) = (n : Int) := by
  unfold IntKind.wrap; simp [IntKind.bits, IntKind.signed]; omega
theorem wrap32_nat {n : Nat} (h : n < 4294967296) : IntKind.u32.wrap (n : Int) = (n : Int) := by
  unfold IntKind.wrap; simp [IntKind.bits, IntKind.signed]; omega

abbrev RdS := List UInt8 × Nat
def nN (s : RdS) (k : Nat) : Nat := rNum s.1 s.2 (k : Int)
def nS (s : RdS) (k : Nat) : RdS := (rNumL s.1 s.2 (k : Int), rNumE s.1 s.2 (k : Int))
def tN (s : RdS) (k : Nat) : ByteArray := ⟨(rBytes s.1 s.2 (k : Int)).toArray⟩
def tS (s : RdS) (k : Nat) : RdS := (rBytesL s.1 s.2 (k : Int), rBytesE s.1 s.2 (k : Int))
theorem nN_lt (s : RdS) (k : Nat) : nN s k < 256 ^ k := rNum_lt _ _ _
/-- The reader at block g, in the state s. -/
def IsRS (w : World) (g : Nat) (s : RdS) : Prop := IsRB w g s.1 s.2
theorem IsRS.lt {w : World} {g : Nat} {s : RdS} (h : IsRS w g s) : g < w.heap.size := IsRB.lt h
theorem IsRS.keep {w w' : World} {g : Nat} {s : RdS} (h : IsRS w g s) (h' : SameTo (g + 1) w w') : IsRS w' g s := IsRB.keep h h'
theorem IsRS.below {w w' : World} {g : Nat} {s : RdS} (h : IsRS w g s) (hb : Below w.heap.size w w') : IsRS w' g s := IsRB.below h hb
/-- What a step of a reader leaves. -/
def RPost (w : World) (g : Nat) (s : RdS) (w' : World) : Prop := IsRS w' g s ∧ Chg (fun i => i = g) w w'
theorem RPost.of {w w' : World} {g : Nat} {s : RdS} (h : IsRS w' g s) (hk : w.grownBy w' (some g)) : RPost w g s w' := ⟨h, (Chg.of_grown hk).mono (fun i _ hi => Option.some.inj hi)⟩

theorem numS_any {w : World} {g : Nat} {s : RdS} (h : IsRS w g s) (k : Nat) :
    Calls Try.prog 40 #[.pointer (some ⟨g, 0, none⟩), .int .i64 (k : Int)] w fun r w' => r = .returned (.int .u64 (nN s k : Nat)) ∧ RPost w g (nS s k) w' := by
  refine (numB_any g s.1 s.2 (k : Int) w h).mono ?_
  rintro r w' ⟨h1, h2, h3⟩
  exact ⟨h1, RPost.of h2 h3⟩
theorem bytesS_any {w : World} {g : Nat} {s : RdS} (h : IsRS w g s) (hl : s.1.length ≤ 140737488355328) (k : Nat) :
    Calls Try.prog 41 #[.pointer (some ⟨g, 0, none⟩), .int .i64 (k : Int)] w fun r w' => ∃ A1 c1, r = .returned (.slice A1 (rBytes s.1 s.2 (k : Int)).length c1) ∧ Reads w' 1 A1 (rBytes s.1 s.2 (k : Int)).length (bv (rBytes s.1 s.2 (k : Int))) ∧ RPost w g (tS s k) w' := by
  refine (bytesB_any g s.1 s.2 (k : Int) w h hl).mono ?_
  rintro r w' ⟨A1, c1, h1, h2, h3, h4⟩
  exact ⟨A1, c1, h1, h2.reads, RPost.of h3 h4⟩

set_option maxRecDepth 100000 in
theorem frNumC_any {w : World} {g br : Nat} {s : RdS} (h : IsRS w g s) (hbox : w.heap[br]? = some (.cells #[.pointer (some ⟨g, 0, none⟩)] 62 (0, 0))) (k : Nat) (hk : nN s k < 9223372036854775808) :
    Calls Try.prog 62 #[.int .i64 (k : Int), .pointer (some ⟨br, 0, none⟩)] w fun r w' => r = .returned (.int .i64 (nN s k : Nat)) ∧ RPost w g (nS s k) w' := by
  have hc := (cells1 hbox).1
  have hw := wrapI_nat hk
  have H := Lib.hid (numS_any h k)
  clear h hbox hk
  go_enter Try.func62, Try.ntmps62
  go_wp2_with fail
  refine H.out.mono ?_
  rintro r w1 ⟨rfl, hp⟩
  go_wp2_with fail
  go_ret
  exact ⟨rfl, hp⟩
set_option maxRecDepth 100000 in
theorem frTextC_any {w : World} {g br : Nat} {s : RdS} (h : IsRS w g s) (hl : s.1.length ≤ 140737488355328) (hbox : w.heap[br]? = some (.cells #[.pointer (some ⟨g, 0, none⟩)] 62 (0, 0))) (k : Nat) :
    Calls Try.prog 63 #[.int .i64 (k : Int), .pointer (some ⟨br, 0, none⟩)] w fun r w' => r = .returned (.string (tN s k)) ∧ RPost w g (tS s k) w' := by
  have hc := (cells1 hbox).1
  have H := Lib.hid (bytesS_any h hl k)
  clear h hbox hl
  go_enter Try.func63, Try.ntmps63
  go_wp2_with fail
  refine H.out.mono ?_
  rintro r w1 ⟨A1, c1, rfl, hr, hp⟩
  have hcv := run_string_of_bytes c1 hr
  have HP := Lib.hid hp
  clear hr hp
  go_wp2_with fail
  go_ret
  exact ⟨rfl, HP.out⟩
theorem nS_len (s : RdS) (k : Nat) : (nS s k).1.length ≤ s.1.length := by
  unfold nS rNumL; dsimp only
  split
  · rw [List.length_drop]; omega
  · exact Nat.le_refl _
theorem tS_len (s : RdS) (k : Nat) : (tS s k).1.length ≤ s.1.length := by
  unfold tS rBytesL; dsimp only
  split
  · rw [List.length_drop]; omega
  · exact Nat.le_refl _
attribute [irreducible] nN nS tN tS
end Go.Proofs.Ytcahflddafdhfaa
