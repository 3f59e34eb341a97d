/- A product of complex numbers whose parts are small. -/
import Derived.Test.YtlfclpdcingpnaaDoorFloat
namespace Go.Proofs.YtlfclpdcingpnaaDoor
theorem cmul_is {x y u v : Nat} {a b c d : Int} (hx : IsI x a) (hy : IsI y b) (hu : IsI u c) (hv : IsI v d) (ha : a.natAbs ≤ 128) (hb : b.natAbs ≤ 128) (hc : c.natAbs ≤ 1) (hd : d.natAbs ≤ 1) :
    ∃ re im, cMulBits x y u v = some (re, im) ∧ IsI re (a * c - b * d) ∧ IsI im (a * d + b * c) := by
  have m (p q : Int) (hp : p.natAbs ≤ 128) (hq : q.natAbs ≤ 1) : (p * q).natAbs ≤ 128 := by
    rw [Int.natAbs_mul]; exact Nat.le_trans (Nat.mul_le_mul hp hq) (by omega)
  have m1 := m a c ha hc
  have m2 := m b d hb hd
  have m3 := m a d ha hd
  have m4 := m b c hb hc
  obtain ⟨ac, h1, i1⟩ := hx.mul hu (by omega)
  obtain ⟨bd, h2, i2⟩ := hy.mul hv (by omega)
  obtain ⟨re, h3, i3⟩ := i1.sub i2 (by omega)
  obtain ⟨ad, h4, i4⟩ := hx.mul hv (by omega)
  obtain ⟨bc, h5, i5⟩ := hy.mul hu (by omega)
  obtain ⟨im, h6, i6⟩ := i4.add i5 (by omega)
  exact ⟨re, im, by unfold cMulBits; simp only [h1, h2, h3, h4, h5, h6, Option.bind_some], i3, i6⟩

end Go.Proofs.YtlfclpdcingpnaaDoor
