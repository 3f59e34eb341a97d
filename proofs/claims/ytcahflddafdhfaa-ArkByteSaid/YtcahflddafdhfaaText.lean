/- The reference's numbers as texts. -/
import Derived.Test.YtcahflddafdhfaaConv
import Derived.Test.YtcahflddafdhfaaWordRef
open Go.RowKit
namespace Go.Proofs.Ytcahflddafdhfaa

/-- A number in so many bytes, as a text. -/
def txt (x : Int) (n : Nat) : ByteArray := ⟨(wPut [] x n).toArray⟩
theorem txt_ok (k n : Nat) (h1 : 1 ≤ k) (h2 : k ≤ 8) : txt k n = ⟨(be k n).toArray⟩ := by
  unfold txt
  rw [wPut_ok (wOk_true (by omega) (by omega)), Int.toNat_natCast, List.nil_append]
theorem txt_size (k n : Nat) (h1 : 1 ≤ k) (h2 : k ≤ 8) : (txt k n).size = k := by
  rw [txt_ok k n h1 h2]
  show (be k n).toArray.size = k
  rw [List.size_toArray, be_length]
theorem bl_txt (k n : Nat) (h1 : 1 ≤ k) (h2 : k ≤ 8) : bl (txt k n) = be k n := by rw [txt_ok k n h1 h2, bl_mk]
theorem bl_append (a b : ByteArray) : bl (a ++ b) = bl a ++ bl b := by simp [bl, ByteArray.data_append]
theorem bl_inj {a b : ByteArray} (h : bl a = bl b) : a = b := by
  rw [← mk_bl a, ← mk_bl b, h]

set_option maxRecDepth 100000 in
theorem text_any (x : Int) (n : Nat) (hn : n < 18446744073709551616) (w : World) :
    Calls Try.prog 35 #[.int .i64 x, .int .u64 n] w fun e w' => e = .returned (.string (txt x n)) ∧ Below w.heap.size w w' := by
  have Hn := Lib.hid hn
  clear hn
  go_enter Try.func35, Try.ntmps35
  go_wp2_with fail
  refine (refPut_any none [] 0 x n Hn.out w (Reads.nil _ _ _) (by simp)).mono ?_
  rintro e w1 ⟨A, c, rfl, ho, hb⟩
  have hcv : (convert 25 9 (.slice A (wPut [] x n).length c)).run Try.prog w1 = .ok (.string (txt x n)) w1 := run_string_of_bytes c ho.reads
  have Hb := Lib.hid hb
  clear ho hb
  generalize (wPut [] x n).length = m at hcv ⊢
  go_wp2_with fail
  go_ret
  exact ⟨rfl, Hb.out⟩
end Go.Proofs.Ytcahflddafdhfaa
