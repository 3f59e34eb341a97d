/- Two slices of bytes: whether they are alike. -/
import Derived.Test.YtcahflddafdhfaaConv
import Derived.Test.YtcahflddafdhfaaPk
import Derived.Deep.QuietTactic
import Derived.BigQuiet
open Go.RowKit
namespace Go.Proofs.Ytcahflddafdhfaa

theorem byteAt {w : World} {A : Option Addr} {l : List UInt8} (h : Reads w 1 A l.length (bv l)) {k : Nat} (hk : k < l.length) : ∃ ad : Addr, A = some ad ∧ w.cell? (ad.add k) = some (.int .u8 (l[k].toNat : Int)) := by
  obtain ⟨ad, rfl, hc⟩ := h.2 (by omega)
  exact ⟨ad, rfl, hc _ _ (by simp [bv, hk])⟩
set_option maxRecDepth 100000 in
theorem eqBytes_any (A B : Option Addr) (l m : List UInt8) (c d : Nat) (w : World) (hr : Reads w 1 A l.length (bv l)) (hs : Reads w 1 B m.length (bv m)) (hl : l.length ≤ 140737488355328) :
    Calls Try.prog 42 #[.slice A l.length c, .slice B m.length d] w fun e w' => e = .returned (.bool (decide (l = m))) ∧ Below w.heap.size w w' := by
  have Hr := Lib.hid hr
  have Hs := Lib.hid hs
  clear hr hs
  by_cases hlm : l.length = m.length
  · have Hlm := Lib.hid hlm
    have hb : ((l.length : Int) != (m.length : Int)) = false := by simp [hlm]
    generalize hn : m.length = n at *
    have Hn := Lib.hid hn
    subst hlm
    clear hn
    go_enter Try.func42, Try.ntmps42
    go_wp2_with fail
    clear hb
    go_loopw [13] (fun i wr => ∃ k : Nat, k ≤ l.length ∧ i = .int .i64 k ∧ Hid (∀ j, j < k → l[j]? = m[j]?) ∧ Hid (Below w.heap.size w wr)) (fun i _ => l.length - (intOf i).toNat)
    case atStart => exact ⟨0, by omega, rfl, (fun j hj => by omega), Below.refl _ _⟩
    case round =>
      obtain ⟨k, hk, rfl, Hp, Hb⟩ := hrel
      by_cases hlt : k < l.length
      · have hlm : k < m.length := by rw [Hn.out]; exact hlt
        obtain ⟨ad, rfl, hc⟩ := byteAt (Hr.out.below Hb.out) hlt
        have Hs2 := Lib.hid (show Reads wr 1 B m.length (bv m) from (Hn.out ▸ Hs.out).below Hb.out)
        obtain ⟨bd, rfl, hd⟩ := byteAt Hs2.out hlm
        have e1 : l[k]? = some l[k] := List.getElem?_eq_getElem hlt
        have e2 : m[k]? = some m[k] := List.getElem?_eq_getElem hlm
        generalize l[k] = x at hc e1
        generalize m[k] = y at hd e2
        have E1 := Lib.hid e1
        have E2 := Lib.hid e2
        clear e1 e2 hlm
        by_cases hxy : x = y
        · subst hxy
          go_wp2_with fail
          go_quiet (fail)
          clear hc hd
          go_wp2_with fail
          case roundEnd =>
            refine ⟨⟨k + 1, by omega, by push_cast; rfl, Lib.hid fun j hj => ?_, Lib.hid (Hb.out.trans ⟨rfl, rfl, rfl, Nat.le_refl _, fun _ _ => rfl⟩)⟩, by simp only [intOf]; omega⟩
            by_cases h : j = k
            · subst h; rw [E1.out, E2.out]
            · exact Hp.out j (by omega)
        · have hne : ((x.toNat : Int) != (y.toNat : Int)) = true := by rw [bne_iff_ne]; exact fun e => hxy (UInt8.toNat_inj.1 (by omega))
          have Hd : Hid (decide (l = m) = false) := Lib.hid (decide_eq_false fun h => hxy (by have h1 := E1.out; rw [h, E2.out] at h1; exact (Option.some.inj h1).symm))
          clear hxy
          go_wp2_with fail
          go_quiet (fail)
          clear hc hd
          go_wp2_with fail
          go_ret
          exact ⟨by rw [Hd.out]; rfl, Hb.out.trans ⟨rfl, rfl, rfl, Nat.le_refl _, fun _ _ => rfl⟩⟩
      · obtain rfl : k = l.length := by omega
        have Hd : Hid (decide (l = m) = true) := Lib.hid (decide_eq_true (List.ext_getElem? fun j => by
          by_cases h : j < l.length
          · exact Hp.out j h
          · rw [List.getElem?_eq_none (by omega), List.getElem?_eq_none (by rw [Hn.out]; omega)]))
        go_wp2_with fail
        go_ret
        exact ⟨by rw [Hd.out]; rfl, Hb.out⟩
  · have hb : ((l.length : Int) != (m.length : Int)) = true := by rw [bne_iff_ne]; omega
    have Hd : Hid (decide (l = m) = false) := Lib.hid (decide_eq_false fun h => hlm (by rw [h]))
    clear hlm
    go_enter Try.func42, Try.ntmps42
    go_wp2_with fail
    go_ret
    exact ⟨by rw [Hd.out]; rfl, Below.refl _ _⟩


end Go.Proofs.Ytcahflddafdhfaa
