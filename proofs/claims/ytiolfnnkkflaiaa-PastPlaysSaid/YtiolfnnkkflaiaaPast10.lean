/- Pasts: what each method does, told of what a past holds. -/
import Derived.Test.YtiolfnnkkflaiaaRPast5
open Go.RowKit
namespace Go.Proofs.Ytiolfnnkkflaiaa

/-- A past of few parts. -/
structure okP (n : Nat) (σ : Ps) : Prop where
  m : σ.m.length ≤ 90000
  r : ∀ l ∈ σ.m, l.length ≤ n
  e : σ.e.length ≤ n
  i : ∀ x ∈ σ.e, x.2.length ≤ 90000
  n : 1 ≤ n ∧ n ≤ 90000
theorem okP.mono {n k : Nat} {σ : Ps} (h : okP n σ) (hk : n ≤ k) (hk2 : k ≤ 90000) : okP k σ := ⟨h.m, fun l hl => Nat.le_trans (h.r l hl) hk, Nat.le_trans h.e hk, h.i, Nat.le_trans h.n.1 hk, hk2⟩
theorem okP.new {n : Nat} {l : List ByteArray} (hl : l.length ≤ 90000) (hn : 1 ≤ n ∧ n ≤ 90000) : okP n ⟨newM l, []⟩ :=
  ⟨by simpa [newM] using hl, fun x hx => by simp only [newM, List.mem_map] at hx; obtain ⟨a, _, rfl⟩ := hx; simpa using hn.1, Nat.zero_le _, fun x hx => by simp at hx, hn⟩
theorem okP.write {n : Nat} {σ : Ps} (h : okP n σ) (hn : n + 1 ≤ 90000) (i : Int) (s : ByteArray) : okP (n + 1) ⟨writeM σ.m i s, σ.e⟩ := by
  refine ⟨?_, fun l hl => ?_, by have := h.e; simp only; omega, h.i, by omega, hn⟩
  · unfold writeM; simp only; split
    · rw [List.length_set]; exact h.m
    · exact h.m
  · simp only [writeM] at hl
    split at hl
    · rcases List.mem_or_eq_of_mem_set hl with hl | rfl
      · have := h.r l hl; omega
      · rename_i hc
        have hin : i.toNat < σ.m.length := by unfold inP at hc; omega
        have := h.r (σ.m.getD i.toNat []) (by rw [List.getD_eq_getElem?_getD, List.getElem?_eq_getElem hin]; exact List.getElem_mem hin)
        rw [List.length_append, List.length_singleton]; omega
    · have := h.r l hl; omega
theorem okP.flush {n : Nat} {σ : Ps} (h : okP n σ) : okP n ⟨flushM σ.m, σ.e⟩ :=
  ⟨by simpa [flushM] using h.m, fun x hx => by simp only [flushM, List.mem_map] at hx; obtain ⟨a, _, rfl⟩ := hx; simpa using h.n.1, h.e, h.i, h.n⟩
theorem okP.crash {n : Nat} {σ : Ps} (h : okP n σ) (l : List ByteArray) : okP n ⟨crashM σ.m l, σ.e⟩ := by
  unfold crashM
  split
  · rename_i hc
    have hl : l.length = σ.m.length := by
      unfold crashE at hc
      split at hc
      · cases hc
      · omega
    exact ⟨by simp [hl]; exact h.m, fun x hx => by simp only [List.mem_map] at hx; obtain ⟨a, _, rfl⟩ := hx; simpa using h.n.1, h.e, h.i, h.n⟩
  · exact h
theorem okP.seal {n : Nat} {σ : Ps} (h : okP n σ) (hn : n + 1 ≤ 90000) (e : Nat) : okP (n + 1) ⟨σ.m, sealI σ.m σ.e e⟩ := by
  refine ⟨h.m, fun l hl => Nat.le_trans (h.r l hl) (by omega), ?_, fun x hx => ?_, by omega, hn⟩
  · unfold sealI; simp only; split
    · have := h.e; omega
    · have := h.e; simp; omega
  · simp only [sealI] at hx
    split at hx
    · exact h.i x hx
    · rcases List.mem_append.1 hx with hx | hx
      · exact h.i x hx
      · obtain rfl := List.mem_singleton.1 hx
        simpa using h.m

section
variable {w : World} {g : Nat} {A : Option Addr} {c : Nat} {T : List TR} {B : Option Addr} {d : Nat} {I : List IM} {F : Nat → Prop} {σ : Ps} {n : Nat}
theorem okP.rows (h : okP n ⟨texts T, imgs I⟩) : ∀ k (hk : k < T.length), T[k].xs.length ≤ n := fun k hk => h.r _ (by unfold texts; exact List.mem_map_of_mem (List.getElem_mem hk))
theorem okP.len (h : okP n ⟨texts T, imgs I⟩) : T.length ≤ 90000 := by have := h.m; simpa [texts] using this
theorem okP.ilen (h : okP n ⟨texts T, imgs I⟩) : I.length ≤ 90000 := by have := h.e; have := h.n.2; simp [imgs] at *; omega
theorem okP.ims (h : okP n ⟨texts T, imgs I⟩) : ∀ m ∈ I, m.xs.length ≤ 100000 := fun m hm => Nat.le_trans (h.i (m.e, m.xs) (by unfold imgs; exact List.mem_map_of_mem (f := fun m : IM => (m.e, m.xs)) hm)) (by omega)
theorem PastM.p (h : PastM w g A c T B d I) : PastP w g (PastF g A T B I) ⟨texts T, imgs I⟩ := ⟨A, c, T, B, d, I, h, rfl, fun _ => Iff.rfl⟩
theorem PastD.p {w1 : World} {T1 : List TR} (h : PastD w g A c T B d I w1 T1) (hF : ∀ i, F i ↔ PastF g A T B I i) : PastPost w g F ⟨texts T1, imgs I⟩ w1 :=
  ⟨_, h.m.p, fun i hi => (h.foot i hi).imp (fun h => (hF i).2 h) id, h.chg.mono (fun i _ hi => (hF i).2 hi)⟩

theorem pNew_any (w : World) (A' : Option Addr) (c' : Nat) (l : List ByteArray) (hr : Reads w 1 A' l.length (sts l)) (hl : l.length ≤ 90000) :
    Calls Try.prog 34 #[.slice A' l.length c'] w fun e w' => ∃ g F, e = .returned (.pointer (some ⟨g, 0, none⟩)) ∧ PastP w' g F ⟨newM l, []⟩ ∧ (∀ i, F i → w.heap.size ≤ i) ∧ Below w.heap.size w w' :=
  (pastNew_any w A' c' l hr hl).mono fun e w' ⟨g, A, c, T, he, hM, hT, hF, hb⟩ => ⟨g, _, he, by have := hM.p; rw [hT] at this; exact this, hF, hb⟩
theorem pWrite_any (h : PastP w g F σ) (hok : okP n σ) (i : Int) (s : ByteArray) :
    Calls Try.prog 35 #[.pointer (some ⟨g, 0, none⟩), .int .i64 i, .string s] w fun e w' => e = .returned (.int .i64 (writeE σ.m i s : Nat)) ∧ PastPost w g F ⟨writeM σ.m i s, σ.e⟩ w' := by
  obtain ⟨A, c, T, B, d, I, hM, rfl, hF⟩ := h
  refine (pastWrite_any hM (fun k hk => by have := hok.rows k hk; have := hok.n.2; omega) i s).mono fun e w' ⟨he, T', h1, h2, h3, h4⟩ => ⟨he, _, by have := h1.p; rw [h2] at this; exact this, fun i hi => (h3 i hi).imp (fun h => (hF i).2 h) id, h4.mono (fun i _ hi => (hF i).2 hi)⟩
theorem pFlush_any (h : PastP w g F σ) (hok : okP n σ) :
    Calls Try.prog 38 #[.pointer (some ⟨g, 0, none⟩)] w fun e w' => e = .returned (.tuple #[]) ∧ PastPost w g F ⟨flushM σ.m, σ.e⟩ w' := by
  obtain ⟨A, c, T, B, d, I, hM, rfl, hF⟩ := h
  refine (pastFlush_any hM (fun k hk => by have := hok.rows k hk; have := hok.n.2; omega) (by have := hok.len; omega)).mono fun e w' ⟨he, T', h1, h2⟩ => ⟨he, by have := h1.p hF; rw [h2] at this; exact this⟩
theorem pCrash_any (h : PastP w g F σ) (hok : okP n σ) (A' : Option Addr) (c' : Nat) (l : List ByteArray) (hr : Reads w 1 A' l.length (sts l)) (hsep : 0 < l.length → ∀ k, blk A' = some k → ¬ F k) (hl : l.length ≤ 100000) :
    Calls Try.prog 39 #[.pointer (some ⟨g, 0, none⟩), .slice A' l.length c'] w fun e w' => e = .returned (.int .i64 (crashE σ.m l : Nat)) ∧ PastPost w g F ⟨crashM σ.m l, σ.e⟩ w' := by
  obtain ⟨A, c, T, B, d, I, hM, rfl, hF⟩ := h
  refine (pastCrash_any hM (fun k hk => by have := hok.rows k hk; have := hok.n.2; omega) A' c' l hr (fun h0 k hk hf => hsep h0 k hk ((hF k).2 hf)) hl).mono fun e w' ⟨he, T', h1, h2⟩ => ⟨he, by have := h1.p hF; rw [h2] at this; exact this⟩
theorem pMay_any (h : PastP w g F σ) (hok : okP n σ) (i : Int) (s : ByteArray) :
    Calls Try.prog 37 #[.pointer (some ⟨g, 0, none⟩), .int .i64 i, .string s] w fun e w' => e = .returned (.bool (mayP σ.m i s)) ∧ Below w.heap.size w w' := by
  obtain ⟨A, c, T, B, d, I, hM, rfl, hF⟩ := h
  exact pastMay_any hM (fun k hk => by have := hok.rows k hk; have := hok.n.2; omega) i s
theorem pLast_any (h : PastP w g F σ) (hok : okP n σ) (i : Int) :
    Calls Try.prog 36 #[.pointer (some ⟨g, 0, none⟩), .int .i64 i] w fun e w' => e = .returned (.tuple #[.string (lastP σ.m i), .int .i64 (hasP σ.m.length i : Nat)]) ∧ w = w' := by
  obtain ⟨A, c, T, B, d, I, hM, rfl, hF⟩ := h
  have := pastLast_any hM (fun k hk => by have := hok.rows k hk; have := hok.n.2; omega) i
  rw [← texts_length T] at this
  exact this
theorem pSeal_any (h : PastP w g F σ) (hok : okP n σ) (e : Nat) :
    Calls Try.prog 54 #[.pointer (some ⟨g, 0, none⟩), .int .u64 (e : Int)] w fun x w' => x = .returned (.int .i64 (sealE σ.e e : Nat)) ∧ PastPost w g F ⟨σ.m, sealI σ.m σ.e e⟩ w' := by
  obtain ⟨A, c, T, B, d, I, hM, rfl, hF⟩ := h
  refine (pastSeal_any hM (fun k hk => by have := hok.rows k hk; have := hok.n.2; omega) hok.len hok.ilen e).mono fun x w' ⟨he, B', d', I', h1, h2, h3, h4⟩ => ⟨he, _, by have := h1.p; rw [h2] at this; exact this, fun i hi => (h3 i hi).imp (fun h => (hF i).2 h) id, h4.mono (fun i _ hi => (hF i).2 hi)⟩
theorem pImage_any (h : PastP w g F σ) (hok : okP n σ) (e : Nat) :
    Calls Try.prog 57 #[.pointer (some ⟨g, 0, none⟩), .int .u64 (e : Int)] w fun x w' => ∃ A1 c1, x = .returned (.tuple #[.slice A1 (imageL σ.e e).length c1, .int .i64 (imageE σ.e e : Nat)]) ∧ StrOut w w' A1 c1 (imageL σ.e e) := by
  obtain ⟨A, c, T, B, d, I, hM, rfl, hF⟩ := h
  exact pastImage_any hM hok.ilen hok.ims e
theorem pEpochs_any (h : PastP w g F σ) (hok : okP n σ) :
    Calls Try.prog 61 #[.pointer (some ⟨g, 0, none⟩)] w fun x w' => ∃ A1 c1, x = .returned (.slice A1 σ.e.length c1) ∧ NumOut w w' A1 c1 (σ.e.map (·.1)) := by
  obtain ⟨A, c, T, B, d, I, hM, rfl, hF⟩ := h
  exact pastEpochs_any hM hok.ilen
theorem PastPost.fresh {w1 : World} {B0 : Nat} (h : PastPost w g F σ w1) (hF : ∀ i, F i → B0 ≤ i) (hB : B0 ≤ w.heap.size) : ∃ F', PastP w1 g F' σ ∧ (∀ i, F' i → B0 ≤ i) ∧ Below B0 w w1 := by
  obtain ⟨F', h1, h2, h3⟩ := h
  exact ⟨F', h1, fun i hi => (h2 i hi).elim (fun h => hF i h) (fun h => Nat.le_trans hB h), h3.below (fun i hi hf => by have := hF i hf; omega) hB⟩
end

/-! ### the document's -/
def RefP (w : World) (g : Nat) (F : Nat → Prop) (σ : Ps) : Prop := ∃ A c T E ce B d I, RPM w g A c T E ce B d I ∧ σ = ⟨texts T, imgs I⟩ ∧ ∀ i, F i ↔ RPF g A T E B I i
def RefPost (w : World) (g : Nat) (F : Nat → Prop) (σ : Ps) (w' : World) : Prop := ∃ F', RefP w' g F' σ ∧ (∀ i, F' i → F i ∨ w.heap.size ≤ i) ∧ Chg F w w'
section
variable {w w1 : World} {g : Nat} {A : Option Addr} {c : Nat} {T : List TR} {E B : Option Addr} {ce d : Nat} {I : List IM} {F : Nat → Prop} {σ : Ps} {n : Nat}
theorem RefP.chg {G : Nat → Prop} (h : RefP w g F σ) (hc : Chg G w w1) (hG : ∀ i, F i → ¬ G i) : RefP w1 g F σ := by
  obtain ⟨A, c, T, E, ce, B, d, I, hM, hσ, hF⟩ := h
  exact ⟨A, c, T, E, ce, B, d, I, hM.chg hc (fun i hi => hG i ((hF i).2 hi)), hσ, hF⟩
theorem RefP.below (h : RefP w g F σ) (hb : Below w.heap.size w w1) : RefP w1 g F σ := h.chg (G := fun _ => False) (.of_below hb) (fun _ _ f => f)
theorem RefP.foot (h : RefP w g F σ) : ∀ i, F i → i < w.heap.size := by
  obtain ⟨A, c, T, E, ce, B, d, I, hM, hσ, hF⟩ := h
  exact fun i hi => hM.foot i ((hF i).1 hi)
theorem RPM.p (h : RPM w g A c T E ce B d I) : RefP w g (RPF g A T E B I) ⟨texts T, imgs I⟩ := ⟨A, c, T, E, ce, B, d, I, h, rfl, fun _ => Iff.rfl⟩
theorem RPD.p {T1 : List TR} (h : RPD w g A c T E ce B d I w1 T1) (hF : ∀ i, F i ↔ RPF g A T E B I i) : RefPost w g F ⟨texts T1, imgs I⟩ w1 :=
  ⟨_, h.m.p, fun i hi => (h.foot i hi).imp (fun h => (hF i).2 h) id, h.chg.mono (fun i _ hi => (hF i).2 hi)⟩
theorem rNew_any (w : World) (A' : Option Addr) (c' : Nat) (l : List ByteArray) (hr : Reads w 1 A' l.length (sts l)) (hl : l.length ≤ 90000) :
    Calls Try.prog 50 #[.slice A' l.length c'] w fun e w' => ∃ g F, e = .returned (.pointer (some ⟨g, 0, none⟩)) ∧ RefP w' g F ⟨newM l, []⟩ ∧ (∀ i, F i → w.heap.size ≤ i) ∧ Below w.heap.size w w' :=
  (refNew_any w A' c' l hr hl).mono fun e w' ⟨g, A, c, T, he, hM, hT, hF, hb⟩ => ⟨g, _, he, by have := hM.p; rw [hT] at this; exact this, hF, hb⟩
theorem rWrite_any (h : RefP w g F σ) (hok : okP n σ) (i : Int) (s : ByteArray) :
    Calls Try.prog 51 #[.pointer (some ⟨g, 0, none⟩), .int .i64 i, .string s] w fun e w' => e = .returned (.int .i64 (writeE σ.m i s : Nat)) ∧ RefPost w g F ⟨writeM σ.m i s, σ.e⟩ w' := by
  obtain ⟨A, c, T, E, ce, B, d, I, hM, rfl, hF⟩ := h
  refine (refWrite_any hM (fun k hk => by have := hok.rows k hk; have := hok.n.2; omega) i s).mono fun e w' ⟨he, T', h1, h2⟩ => ⟨he, by have := h1.p hF; rw [h2] at this; exact this⟩
theorem rFlush_any (h : RefP w g F σ) (hok : okP n σ) :
    Calls Try.prog 52 #[.pointer (some ⟨g, 0, none⟩)] w fun e w' => e = .returned (.tuple #[]) ∧ RefPost w g F ⟨flushM σ.m, σ.e⟩ w' := by
  obtain ⟨A, c, T, E, ce, B, d, I, hM, rfl, hF⟩ := h
  refine (refFlush_any hM (fun k hk => by have := hok.rows k hk; have := hok.n.2; omega) hok.len).mono fun e w' ⟨he, T', h1, h2⟩ => ⟨he, by have := h1.p hF; rw [h2] at this; exact this⟩
theorem rCrash_any (h : RefP w g F σ) (hok : okP n σ) (A' : Option Addr) (c' : Nat) (l : List ByteArray) (hr : Reads w 1 A' l.length (sts l)) (hsep : 0 < l.length → ∀ k, blk A' = some k → ¬ F k) (hl : l.length ≤ 100000) :
    Calls Try.prog 53 #[.pointer (some ⟨g, 0, none⟩), .slice A' l.length c'] w fun e w' => e = .returned (.int .i64 (crashE σ.m l : Nat)) ∧ RefPost w g F ⟨crashM σ.m l, σ.e⟩ w' := by
  obtain ⟨A, c, T, E, ce, B, d, I, hM, rfl, hF⟩ := h
  refine (refCrash_any hM (fun k hk => by have := hok.rows k hk; have := hok.n.2; omega) A' c' l hr (fun h0 k hk hf => hsep h0 k hk ((hF k).2 hf)) hl).mono fun e w' ⟨he, T', h1, h2⟩ => ⟨he, by have := h1.p hF; rw [h2] at this; exact this⟩
theorem rHas_any (h : RefP w g F σ) (hok : okP n σ) (i : Int) (s : ByteArray) :
    Calls Try.prog 59 #[.pointer (some ⟨g, 0, none⟩), .int .i64 i, .string s] w fun e w' => e = .returned (.bool (mayP σ.m i s)) ∧ w = w' := by
  obtain ⟨A, c, T, E, ce, B, d, I, hM, rfl, hF⟩ := h
  exact refHas_any hM (fun k hk => by have := hok.rows k hk; have := hok.n.2; omega) i s
theorem rLast_any (h : RefP w g F σ) (hok : okP n σ) (i : Int) :
    Calls Try.prog 56 #[.pointer (some ⟨g, 0, none⟩), .int .i64 i] w fun e w' => e = .returned (.tuple #[.string (lastP σ.m i), .int .i64 (hasP σ.m.length i : Nat)]) ∧ w = w' := by
  obtain ⟨A, c, T, E, ce, B, d, I, hM, rfl, hF⟩ := h
  have := refLast_any hM (fun k hk => by have := hok.rows k hk; have := hok.n.2; omega) i
  rw [← texts_length T] at this
  exact this
theorem rSeal_any (h : RefP w g F σ) (hok : okP n σ) (e : Nat) :
    Calls Try.prog 55 #[.pointer (some ⟨g, 0, none⟩), .int .u64 (e : Int)] w fun x w' => x = .returned (.int .i64 (sealE σ.e e : Nat)) ∧ RefPost w g F ⟨σ.m, sealI σ.m σ.e e⟩ w' := by
  obtain ⟨A, c, T, E, ce, B, d, I, hM, rfl, hF⟩ := h
  refine (refSeal_any hM (fun k hk => by have := hok.rows k hk; have := hok.n.2; omega) hok.len hok.ilen e).mono fun x w' ⟨he, E', ce', B', d', I', h1, h2, h3, h4⟩ => ⟨he, _, by have := h1.p; rw [h2] at this; exact this, fun i hi => (h3 i hi).imp (fun h => (hF i).2 h) id, h4.mono (fun i _ hi => (hF i).2 hi)⟩
theorem rImage_any (h : RefP w g F σ) (hok : okP n σ) (e : Nat) :
    Calls Try.prog 58 #[.pointer (some ⟨g, 0, none⟩), .int .u64 (e : Int)] w fun x w' => ∃ A1 c1, x = .returned (.tuple #[.slice A1 (imageL σ.e e).length c1, .int .i64 (imageE σ.e e : Nat)]) ∧ Reads w 1 A1 (imageL σ.e e).length (sts (imageL σ.e e)) ∧ w = w' := by
  obtain ⟨A, c, T, E, ce, B, d, I, hM, rfl, hF⟩ := h
  exact refImage_any hM hok.ilen e
/-- Where its epochs lie. -/
theorem RefP.eps (h : RefP w g F σ) : ∃ E ce, w.cell? ⟨g, 1, none⟩ = some (.slice E σ.e.length ce) ∧ Reads w 1 E σ.e.length (nvs (σ.e.map (·.1))) := by
  obtain ⟨A, c, T, E, ce, B, d, I, hM, rfl, hF⟩ := h
  refine ⟨E, ce, ?_, ?_⟩
  · rw [(cells3 hM.cell).2.1]; simp [imgs]
  · have := Reads.of_own hM.img.ep
    simpa [imgs, Go.Proofs.Ytiolfnnkkflaiaa.eps, Function.comp_def] using this
end
end Go.Proofs.Ytiolfnnkkflaiaa
