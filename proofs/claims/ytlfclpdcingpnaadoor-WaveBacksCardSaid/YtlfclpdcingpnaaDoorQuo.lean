/- A quarter of a whole number, as a float: the same of both words that are the number. -/
import Derived.Test.YtlfclpdcingpnaaDoorFloat
namespace Go.Proofs.YtlfclpdcingpnaaDoor
open Ieee

theorem order_self (d : Datum) (h : ∀ s t, d ≠ .nan s t) : d.order d = some .eq := by
  cases d with
  | number s m i => simp [Datum.order]
  | infinity s => simp [Datum.order]
  | nan s t => exact absurd rfl (h s t)
theorem read_word_inf (s : Bool) (r : Nat) (hr : r ≤ double.infRung) : ∀ t x, double.read (double.word s r) ≠ .nan t x := by
  have hinf : double.infRung = 9218868437227405312 := by decide
  obtain ⟨h1, h2⟩ := read_word s r (by omega)
  intro t x
  unfold Format.read
  simp only [h1, h2]
  split
  · intro h; cases h
  split
  · intro h; cases h
  split
  · intro h; cases h
  · omega
theorem order_nearest (s : Bool) (m : Nat) (i : Int) : double.order (double.nearest s m i) (double.nearest s m i) = some .eq := by
  unfold Format.order
  refine order_self _ ?_
  unfold Format.nearest
  split
  · exact read_word_inf s 0 (Nat.zero_le _)
  · exact read_word_inf s _ (Nat.min_le_right _ _)

/-- The word of 4. -/
def four64 : Nat := 4616189618054758400
theorem read_four : double.read four64 = .number false 4503599627370496 (-50) := by decide +kernel
theorem quo_self (s : Bool) (m : Nat) (hm : m < 9007199254740992) : ∃ y, floatBits .quo .f64 (wrote s m) four64 = some y ∧ FloatKind.f64.format.order y y = some .eq := by
  obtain ⟨k, hk⟩ := read_wrote s m hm
  have hq : ∃ t n i, Datum.quotient 54 (.number s (m <<< k) (-(k : Int))) (.number false 4503599627370496 (-50)) = some (.number t n i) := by
    unfold Datum.quotient
    simp only
    rw [if_neg (by omega)]
    exact ⟨_, _, _, rfl⟩
  obtain ⟨t, n, i, hq⟩ := hq
  refine ⟨double.nearest t n i, ?_, order_nearest _ _ _⟩
  show double.div _ _ = _
  unfold Format.div
  rw [hk, read_four]
  show (Datum.quotient 54 _ _).map _ = _
  rw [hq]
  rfl
theorem quo_same {x y : Nat} {v : Int} (hx : IsI x v) (hy : IsI y v) : ∃ p q, floatBits .quo .f64 x four64 = some p ∧ floatBits .quo .f64 y four64 = some q ∧ FloatKind.f64.format.order p q = some .eq := by
  obtain ⟨s, m, rfl, hm, rfl⟩ := hx
  obtain ⟨t, n, rfl, hn, h⟩ := hy
  have hmn : m = n := by rw [← sv_abs s m, ← sv_abs t n, h]
  subst hmn
  by_cases h0 : m = 0
  · subst h0
    have all : ∀ s t : Bool, ∃ p q, floatBits .quo .f64 (wrote s 0) four64 = some p ∧ floatBits .quo .f64 (wrote t 0) four64 = some q ∧ FloatKind.f64.format.order p q = some .eq := by
      intro s t
      cases s <;> cases t
      · exact ⟨0, 0, by decide +kernel, by decide +kernel, by decide +kernel⟩
      · exact ⟨0, 9223372036854775808, by decide +kernel, by decide +kernel, by decide +kernel⟩
      · exact ⟨9223372036854775808, 0, by decide +kernel, by decide +kernel, by decide +kernel⟩
      · exact ⟨9223372036854775808, 9223372036854775808, by decide +kernel, by decide +kernel, by decide +kernel⟩
    exact all s t
  · have hst : s = t := by
      cases s <;> cases t <;> simp [sv] at h ⊢ <;> omega
    subst hst
    obtain ⟨y, h1, h2⟩ := quo_self s m hm
    exact ⟨y, y, h1, h1, h2⟩
end Go.Proofs.YtlfclpdcingpnaaDoor
