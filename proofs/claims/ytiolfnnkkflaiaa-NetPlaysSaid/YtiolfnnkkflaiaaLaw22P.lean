/- The law of a net that is played with. -/
import Derived.Test.YtiolfnnkkflaiaaLaw22S
open Go.RowKit
namespace Go.Proofs.Ytiolfnnkkflaiaa

set_option maxHeartbeats 4000000 in
set_option maxRecDepth 100000 in
theorem netPlays_any (A0 : Option Addr) (ls : List ActV) (c0 : Nat) (A9 : Option Addr) (ms : List ActV) (c9 : Nat) (w : World) (hr : Reads w 5 A0 ls.length (avs ls)) (hr9 : Reads w 5 A9 ms.length (avs ms)) :
    Calls Try.prog 7 #[.slice A0 ls.length c0, .slice A9 ms.length c9] w fun e w' => e = .returned (.bool true) ∧ Below w.heap.size w w' := by
  have HS := Lib.hid (short_any w A0 ls c0 hr)
  have HS9 := Lib.hid (short_any w A9 ms c9 hr9)
  have Hr := Lib.hid hr
  have Hr9 := Lib.hid hr9
  clear hr hr9
  by_cases hsh : shortB ls = false ∨ shortB ms = false
  · have HB := Lib.hid hsh
    cases h1 : shortB ls with
    | false =>
      rw [h1] at HS
      clear hsh HB h1
      go_enter Try.func7, Try.ntmps7
      go_wp2_with fail
      refine HS.out.mono ?_
      rintro e w1 ⟨rfl, rfl⟩
      go_wp2_with fail
      refine (known22_any _).mono ?_
      rintro e w1 ⟨rfl, hb⟩
      go_wp2_with fail
      go_ret
      exact ⟨rfl, hb⟩
    | true =>
      have h2 : shortB ms = false := by rcases hsh with h | h; rw [h1] at h; cases h; exact h
      rw [h1] at HS
      rw [h2] at HS9
      clear hsh HB h1 h2
      go_enter Try.func7, Try.ntmps7
      go_wp2_with fail
      refine HS.out.mono ?_
      rintro e w1 ⟨rfl, rfl⟩
      go_wp2_with fail
      refine HS9.out.mono ?_
      rintro e w1 ⟨rfl, rfl⟩
      go_wp2_with fail
      refine (known22_any _).mono ?_
      rintro e w1 ⟨rfl, hb⟩
      go_wp2_with fail
      go_ret
      exact ⟨rfl, hb⟩
  · have h1 : shortB ls = true := by cases h : shortB ls; exact absurd (.inl h) hsh; rfl
    have h2 : shortB ms = true := by cases h : shortB ms; exact absurd (.inr h) hsh; rfl
    rw [h1] at HS
    rw [h2] at HS9
    have hlen := shortB_len h1
    have Hlen := Lib.hid hlen
    have hlen9 := shortB_len h2
    clear hsh h1 h2
    go_enter Try.func7, Try.ntmps7
    go_wp2_with fail
    refine HS.out.mono ?_
    rintro e w1 ⟨rfl, rfl⟩
    go_wp2_with fail
    refine HS9.out.mono ?_
    rintro e w1 ⟨rfl, rfl⟩
    go_wp2_with fail
    refine (netNew_any w).mono ?_
    rintro e w1 ⟨rfl, hN, hb, hs⟩
    have H0 := Lib.hid (duo_start w w1 hN hb hs)
    obtain ⟨g', hg'⟩ : ∃ g', g' = w1.heap.size := ⟨_, rfl⟩
    have hgg : w.heap.size + 1 = g' := by omega
    rw [hgg] at H0
    clear hN hb hs hgg
    go_wp2_with fail
    rw [← hg']
    clear hg'
    generalize w1.alloc (.cells #[.slice none 0 0, .int .i64 0, .int .i64 0, .int .i64 0] 47) = w2 at H0 ⊢
    obtain ⟨g, hg⟩ : ∃ g, g = w.heap.size := ⟨_, rfl⟩
    rw [← hg] at H0 ⊢
    have HB := Lib.hid (Nat.le_of_eq hg)
    have Hg := Lib.hid hg
    clear hg HS HS9
    go_loopw [7] (fun i wr => ∃ k : Nat, k ≤ ls.length ∧ i = .int .i64 k ∧ Hid (∃ A c A' c' σ, invN σ k ∧ DuoB g w wr g A c g' A' c' σ)) (fun i _ => ls.length - (intOf i).toNat)
    case atStart => exact ⟨0, Nat.zero_le _, rfl, Lib.hid ⟨none, 0, none, 0, Nt.none, invN_none, H0.out⟩⟩
    case round =>
      clear H0
      obtain ⟨k, hk, rfl, HI⟩ := hrel
      obtain ⟨A, c, A', c', σ, hinv, hduo⟩ := HI.out
      by_cases hlt : k < ls.length
      · have hrr := Hr.out.below (w' := wr) (by rw [← Hg.out]; exact hduo.b)
        obtain ⟨ad, rfl, d0, d1, d2, d3, d4⟩ := act_cells hrr hlt
        have HDo := Lib.hid (do_any wr g A c g' A' c' σ (hinv.ok (by omega)) hduo.d ls[k])
        have Hinv := Lib.hid (hinv.step ls[k])
        have HD := Lib.hid hduo
        have hk200 := Lib.hid (show k + 1 ≤ 1000 by omega)
        generalize ls[k] = a at d0 d1 d2 d3 d4 HDo Hinv
        obtain ⟨kd, to, i, n, b⟩ := a
        simp only at d0 d1 d2 d3 d4
        unfold ActV.cells at HDo
        simp only at HDo
        clear hrr hinv hduo
        go_wp2_with fail
        refine HDo.out.mono ?_
        rintro e w3 ⟨rfl, hp⟩
        obtain ⟨A1, c1, A2, c2, hd⟩ := HD.out.next HB.out hp
        have HA := Lib.hid (alike_any w3 g A1 c1 g' A2 c2 _ (Hinv.out.ok hk200.out) hd.d)
        have Hd := Lib.hid hd
        clear hp hd d0 d1 d2 d3 d4 HDo
        generalize stepN σ ⟨kd, to, i, n, b⟩ = τ at Hinv HA Hd
        go_wp2_with fail
        refine HA.out.mono ?_
        rintro e w4 ⟨rfl, hb4⟩
        have Hd := Lib.hid (Hd.out.keep HB.out hb4)
        clear hb4
        go_wp2_with fail
        case roundEnd =>
          exact ⟨⟨k + 1, by omega, by push_cast; rfl, Lib.hid ⟨A1, c1, A2, c2, τ, Hinv.out, Hd.out⟩⟩, by simp only [intOf]; omega⟩
      · obtain rfl : k = ls.length := by omega
        have Hok := Lib.hid (hinv.ok (by omega))
        have HD := Lib.hid hduo
        have Hinv := Lib.hid hinv
        have HC := Lib.hid (netCopy_any wr g A c σ Hok.out hduo.d.n)
        clear hinv hduo HI hlt hk
        go_wp2_with fail
        refine HC.out.mono ?_
        rintro e w5 ⟨x, AX, cx, rfl, hNx, hgx, hkx, hbx⟩
        have hD5 := HD.out.keep HB.out hbx
        have HR := Lib.hid (refCopy_any w5 g' A' c' σ Hok.out hD5.d.r)
        have HD5 := Lib.hid hD5
        have HX := Lib.hid (show NetP w5 x AX cx σ ∧ wr.heap.size ≤ x ∧ (∀ k, blk AX = some k → wr.heap.size ≤ k) from ⟨hNx, hgx, hkx⟩)
        have Hbx := Lib.hid hbx
        clear hNx hgx hkx hbx hD5 HC
        go_wp2_with fail
        refine HR.out.mono ?_
        rintro e w6 ⟨y, AY, cy, rfl, hRy, hgy, hky, hby⟩
        have HD6 := Lib.hid (HD5.out.keep HB.out hby)
        have HY : Hid (DuoB wr.heap.size wr w6 x AX cx y AY cy σ) := Lib.hid ⟨⟨HX.out.1.chg (F := fun _ => False) (.of_below hby) (fun _ _ f => f), hRy, fun i hi hj => by
            have h1 := HX.out.1.foot i hi
            rcases hj with hj | hj
            · omega
            · have := hky i hj; omega⟩, Hbx.out.trans (hby.mono (B' := wr.heap.size) Hbx.out.size), fun i hi => by
            have h1 := Hbx.out.size
            rcases hi with (hi | hi) | (hi | hi)
            · rw [hi]; exact HX.out.2.1
            · exact HX.out.2.2 i hi
            · rw [hi]; omega
            · have := hky i hi; omega⟩
        clear hRy hgy hky hby HR HX Hbx HD5 HD6
        go_wp2_with fail
        generalize wr = v0 at HD HY
        go_loopw [10] (fun i wr => ∃ k : Nat, k ≤ ms.length ∧ i = .int .i64 k ∧ Hid (∃ A c A' c' σ, invN σ (ls.length + k) ∧ DuoB v0.heap.size v0 wr x A c y A' c' σ)) (fun i _ => ms.length - (intOf i).toNat)
        case atStart => exact ⟨0, Nat.zero_le _, rfl, Lib.hid ⟨AX, cx, AY, cy, σ, Hinv.out, HY.out⟩⟩
        case round =>
          clear HY Hinv
          obtain ⟨k, hk, rfl, HI⟩ := hrel
          obtain ⟨A1, c1, A2, c2, τ, hinv, hduo⟩ := HI.out
          by_cases hlt : k < ms.length
          · have hrr := (Hr9.out.below (w' := v0) (by rw [← Hg.out]; exact HD.out.b)).below hduo.b
            obtain ⟨ad, rfl, d0, d1, d2, d3, d4⟩ := act_cells hrr hlt
            have HDo := Lib.hid (do_any wr x A1 c1 y A2 c2 τ (hinv.ok (by have := Hlen.out; omega)) hduo.d ms[k])
            have Hinv := Lib.hid (hinv.step ms[k])
            have HD2 := Lib.hid hduo
            generalize ms[k] = a at d0 d1 d2 d3 d4 HDo Hinv
            obtain ⟨kd, to, i, n, b⟩ := a
            simp only at d0 d1 d2 d3 d4
            unfold ActV.cells at HDo
            simp only at HDo
            clear hrr hinv hduo
            go_wp2_with fail
            refine HDo.out.mono ?_
            rintro e w3 ⟨rfl, hp⟩
            have Hd := Lib.hid (HD2.out.next (Nat.le_refl _) hp)
            clear hp d0 d1 d2 d3 d4 HDo
            generalize stepN τ ⟨kd, to, i, n, b⟩ = τ' at Hinv Hd
            go_wp2_with fail
            case roundEnd =>
              obtain ⟨A3, c3, A4, c4, hd⟩ := Hd.out
              exact ⟨⟨k + 1, by omega, by push_cast; rfl, Lib.hid ⟨A3, c3, A4, c4, τ', Hinv.out, hd⟩⟩, by simp only [intOf]; omega⟩
          · obtain rfl : k = ms.length := by omega
            have Hok2 := Lib.hid (hinv.ok (by have := Hlen.out; omega))
            have HD1 := Lib.hid (HD.out.keep HB.out hduo.b)
            have HD2 := Lib.hid hduo.d
            have HA1 := Lib.hid (alike_any wr g A c g' A' c' σ Hok.out HD1.out.d)
            clear hinv hduo HI hlt hk
            go_wp2_with fail
            refine HA1.out.mono ?_
            rintro e w7 ⟨rfl, hb7⟩
            have HD3 := Lib.hid (HD1.out.keep HB.out hb7)
            have HA2 := Lib.hid (alike_any w7 x A1 c1 y A2 c2 τ Hok2.out (HD2.out.chg (F := fun _ => False) (.of_below hb7) (fun _ _ f => f)))
            clear hb7 HA1
            go_wp2_with fail
            refine HA2.out.mono ?_
            rintro e w8 ⟨rfl, hb8⟩
            have HD4 := Lib.hid (HD3.out.keep HB.out hb8)
            clear hb8 HA2
            go_wp2_with fail
            refine (known22_any _).mono ?_
            rintro e w9 ⟨rfl, hb9⟩
            have HD5 := Lib.hid (HD4.out.keep HB.out hb9)
            clear hb9
            go_wp2_with fail
            go_ret
            exact ⟨rfl, Hg.out ▸ HD5.out.b⟩
end Go.Proofs.Ytiolfnnkkflaiaa
