/- An image to which it is written. -/
import Derived.Test.YtjlecfckcciagaaDel5
open Go.RowKit
namespace Go.Proofs.Ytjlecfckcciagaa

def applyL (im : List ByteArray) (l : List (Int × ByteArray)) : List ByteArray := l.foldl (fun im p => im.set p.1.toNat p.2) im
theorem applyL_cons (im : List ByteArray) (p : Int × ByteArray) (l : List (Int × ByteArray)) : applyL im (p :: l) = applyL (im.set p.1.toNat p.2) l := rfl
theorem applyL_length (l : List (Int × ByteArray)) : ∀ im : List ByteArray, (applyL im l).length = im.length := by
  induction l with
  | nil => intro im; rfl
  | cons p l ih => intro im; rw [applyL_cons, ih, List.length_set]
def applyR (im : List ByteArray) (l : List (Int × ByteArray)) : List ByteArray := if mayE im.length l = 0 then applyL im l else []
theorem applyR_ok {im : List ByteArray} {l : List (Int × ByteArray)} (h : mayE im.length l = 0) : applyR im l = applyL im l := by unfold applyR; rw [if_pos h]
theorem applyR_no {im : List ByteArray} {l : List (Int × ByteArray)} (h : mayE im.length l ≠ 0) : applyR im l = [] := by unfold applyR; rw [if_neg h]

theorem StrOut.set {w w' : World} {b c : Nat} {im : List ByteArray} (h : StrOut w w' (some ⟨b, 0, none⟩) c im) (n : Nat) (s : ByteArray) : StrOut w (w'.setCell ⟨b, n, none⟩ (.string s)) (some ⟨b, 0, none⟩) c (im.set n s) :=
  ⟨h.1.set n s, h.2.1, h.2.2.trans (((Chg.refl (fun i => i = b) w').set b n _ (fun _ => rfl)).below (fun i hi e => by have := h.2.1 b rfl; omega) h.2.2.size)⟩
theorem StrOut.cell {w w' : World} {A : Option Addr} {c : Nat} {im : List ByteArray} (h : StrOut w w' A c im) {n : Nat} (hn : n < im.length) : ∃ b, A = some ⟨b, 0, none⟩ ∧ w'.cell? ⟨b, n, none⟩ = some (.string im[n]) ∧ w'.frozen? ⟨b, n, none⟩ = false := by
  obtain ⟨b, rfl, _⟩ := h.1.form (by omega)
  refine ⟨b, rfl, ?_, World.ownsRow.frozenAt h.1 _⟩
  rw [World.ownsRow.cellAt h.1 n (by omega)]
  exact sts_get im n hn

set_option maxHeartbeats 2000000 in
set_option maxRecDepth 100000 in
theorem apply_any (w : World) (A B : Option Addr) (m : List ByteArray) (l : List (Int × ByteArray)) (c d : Nat) (hm : Reads w 1 B m.length (sts m)) (hd : B = none → m = [] ∧ d = 0) (hml : m.length ≤ 100000) (hr : Reads w 2 A l.length (pks l)) (hl : l.length ≤ 100000) :
    Calls Try.prog 10 #[.slice B m.length d, .slice A l.length c] w fun e w' => ∃ A1 c1, e = .returned (.tuple #[.slice A1 (applyR m l).length c1, .int .i64 (mayE m.length l : Nat)]) ∧ StrOut w w' A1 c1 (applyR m l) := by
  have HM := Lib.hid (may_any w A B m l c d hr hl)
  have Hr := Lib.hid hr
  have Hm := Lib.hid hm
  have Hd := Lib.hid hd
  clear hr hm hd
  by_cases h0 : mayE m.length l = 0
  · have HZ := Lib.hid (mayE_zero h0)
    rw [applyR_ok h0, h0]
    rw [h0] at HM
    have Ha := Lib.hid (applyL_length l m)
    clear h0
    go_enter Try.func10, Try.ntmps10
    go_wp2_with fail
    refine HM.out.mono ?_
    rintro e w1 ⟨rfl, hb1⟩
    have HC := Lib.hid (cloneSt_any w1 B d m (Hm.out.below hb1) Hd.out hml)
    have Hb1 := Lib.hid hb1
    clear hb1
    rw [show ((0 : Nat) : Int) = 0 from rfl]
    go_wp2_with fail
    refine HC.out.mono ?_
    rintro e w2 ⟨A1, c1, rfl, ho⟩
    have HO : Hid (StrOut w w2 A1 c1 m) := Lib.hid ⟨ho.1, fun k hk => Nat.le_trans Hb1.out.size (ho.2.1 k hk), Hb1.out.trans (ho.2.2.mono (B' := w.heap.size) Hb1.out.size)⟩
    clear ho HC HM
    go_wp2_with fail
    go_loopw [20] (fun i wr => ∃ (k : Nat) (im : List ByteArray), k ≤ l.length ∧ i = .int .i64 k ∧ Hid (im.length = m.length) ∧ Hid (applyL im (l.drop k) = applyL m l) ∧ Hid (StrOut w wr A1 c1 im)) (fun i _ => l.length - (intOf i).toNat)
    case atStart => exact ⟨0, m, Nat.zero_le _, rfl, Lib.hid rfl, Lib.hid rfl, HO⟩
    case round =>
      clear HO
      obtain ⟨k, im, hk, rfl, Hi, HA, HO⟩ := hrel
      by_cases hlt : k < l.length
      · obtain ⟨ad, rfl, d0, d1⟩ := put_cells (Hr.out.below HO.out.2.2) hlt
        have hx := HZ.out.2 l[k] (List.getElem_mem hlt)
        rw [drop_at hlt, applyL_cons] at HA
        generalize l[k] = p at d0 d1 hx HA
        obtain ⟨x, s⟩ := p
        simp only at d0 d1 hx HA
        obtain ⟨n, rfl⟩ := Int.eq_ofNat_of_zero_le hx.1
        rw [Int.toNat_natCast] at HA
        have hn : n < m.length := by omega
        have hnI : (n : Int) < (m.length : Int) := by omega
        obtain ⟨hb3, hg3, _⟩ := alloc1 wr #[.int .i64 (n : Int), .string s] 35
        have ho3 := HO.out.keep hb3
        obtain ⟨b, rfl, e0, f0⟩ := ho3.cell (n := n) (by rw [Hi.out]; exact hn)
        obtain ⟨q0, q1, _, _⟩ := cells2 hg3
        have HO3 := Lib.hid (ho3.set n s)
        clear hx hb3 hg3 ho3
        go_wp2_with fail
        case roundEnd =>
          exact ⟨⟨k + 1, im.set n s, by omega, by push_cast; rfl, Lib.hid (by rw [List.length_set]; exact Hi.out), HA, HO3⟩, by simp only [intOf]; omega⟩
      · obtain rfl : k = l.length := by omega
        have HF : Hid (im = applyL m l) := Lib.hid (by have h := HA.out; rw [List.drop_length] at h; exact h)
        go_wp2_with fail
        go_ret2
        exact ⟨A1, c1, by rw [Ha.out]; rfl, by rw [← HF.out]; exact HO.out⟩
  · rw [applyR_no h0]
    have hb : ((mayE m.length l : Int) != 0) = true := by rw [bne_iff_ne]; omega
    generalize mayE m.length l = e1 at *
    clear h0
    go_enter Try.func10, Try.ntmps10
    go_wp2_with fail
    refine HM.out.mono ?_
    rintro e w1 ⟨rfl, hb1⟩
    have Hb1 := Lib.hid hb1
    clear hb1
    go_wp2_with fail
    go_ret2
    exact ⟨none, 0, rfl, SRow.nil _, by simp [blk], Hb1.out⟩

end Go.Proofs.Ytjlecfckcciagaa
