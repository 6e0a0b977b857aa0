/- Plain facts for VickOwn and VickTruth: two rows that differ in one bid. -/
import Derived.Test.YtdgedckfaefohaaIsPlain
namespace Go.Proofs.Ytdgedckfaefohaa.Vk

/-- The least of r and of the first i bids, that at k left out. -/
def oth (bs : List Bd) (k : Nat) (r : Int) : Nat → Int
  | 0 => r
  | i + 1 => if i = k then oth bs k r i else min (oth bs k r i) bs[i]!.2

theorem oth_le (bs : List Bd) (k : Nat) (r : Int) : ∀ n, oth bs k r n ≤ r ∧ ∀ i, i < n → i ≠ k → oth bs k r n ≤ bs[i]!.2
  | 0 => ⟨Int.le_refl _, fun i h => absurd h (Nat.not_lt_zero _)⟩
  | n + 1 => by
    obtain ⟨h1, h2⟩ := oth_le bs k r n
    unfold oth
    split
    · rename_i e
      exact ⟨h1, fun i hi hne => h2 i (by omega) hne⟩
    · refine ⟨by omega, fun i hi hne => ?_⟩
      by_cases c : i = n
      · subst c; omega
      · have := h2 i (by omega) hne; omega

theorem oth_met (bs : List Bd) (k : Nat) (r : Int) : ∀ n, oth bs k r n = r ∨ ∃ i, i < n ∧ i ≠ k ∧ bs[i]!.2 = oth bs k r n
  | 0 => Or.inl rfl
  | n + 1 => by
    unfold oth
    split
    · rcases oth_met bs k r n with h | ⟨i, h1, h2, h3⟩
      · exact Or.inl h
      · exact Or.inr ⟨i, by omega, h2, h3⟩
    · rename_i hne
      by_cases c : oth bs k r n ≤ bs[n]!.2
      · rw [show min (oth bs k r n) bs[n]!.2 = oth bs k r n by omega]
        rcases oth_met bs k r n with h | ⟨i, h1, h2, h3⟩
        · exact Or.inl h
        · exact Or.inr ⟨i, by omega, h2, h3⟩
      · exact Or.inr ⟨n, by omega, hne, by omega⟩

/-- Two numbers that are bounded alike, and met, are one. -/
theorem oth_unique (bs : List Bd) (k : Nat) (r p : Int) (n : Nat) (h1 : p ≤ r) (h2 : ∀ i, i < n → i ≠ k → p ≤ bs[i]!.2) (h3 : p = r ∨ ∃ i, i < n ∧ i ≠ k ∧ bs[i]!.2 = p) : p = oth bs k r n := by
  obtain ⟨g1, g2⟩ := oth_le bs k r n
  have a : p ≤ oth bs k r n := by
    rcases oth_met bs k r n with h | ⟨i, i1, i2, i3⟩
    · omega
    · have := h2 i i1 i2; omega
  have b : oth bs k r n ≤ p := by
    rcases h3 with h | ⟨i, i1, i2, i3⟩
    · omega
    · have := g2 i i1 i2; omega
  omega

/-- Who is ahead of all others, and at most the reserve, wins, and is paid that. -/
theorem vickOf_first (bs : List Bd) (r : Int) (k : Nat) (hk : k < bs.length) (hf : ∀ i, i < bs.length → i ≠ k → ahead bs k i) (hle : bs[k]!.2 ≤ r) :
    vickOf bs r = ((2 : Int), bs[k]!.1, oth bs k r bs.length) := by
  obtain ⟨j, p, S⟩ := isSold bs r ((someTo_iff bs r _).2 ⟨k, hk, hle⟩)
  have hjk : j = k := by
    have h1 := S.at_
    have hr := rank_first bs (i := k) hk
    have h0 := rank_at0 bs (by omega)
    by_cases c : k = (rankOf bs)[0]!
    · have h2 := atTo_first bs k hf bs.length hk (Nat.le_refl _)
      by_cases e : j = k
      · exact e
      · have a1 := hf j S.lt e
        have a2 := S.all k hk (Ne.symm e)
        unfold ahead at a1
        have e1 : bs[k]!.1 = bs[j]!.1 := by have := a2.2.2; omega
        rw [e1] at h2
        rw [h1] at h2
        exact (Option.some.inj h2)
    · exact absurd (hf _ h0 (Ne.symm c)) (ahead_asymm bs (hr c))
  subst hjk
  rw [S.out, oth_unique bs j r p bs.length S.res (fun i hi hne => by have := (S.all i hi hne).1; omega) S.met]

/-- The first one. -/
theorem first_or_none (bs : List Bd) (r : Int) : (∃ k, k < bs.length ∧ (∀ i, i < bs.length → i ≠ k → ahead bs k i) ∧ bs[k]!.2 ≤ r) ∨ (vickOf bs r = ((3 : Int), (-1 : Int), (0 : Int)) ∧ ∀ i, i < bs.length → r < bs[i]!.2) := by
  cases h : someTo bs r bs.length with
  | true =>
    obtain ⟨j, hj, hjr⟩ := (someTo_iff bs r _).1 h
    have h0 := rank_at0 bs (by omega)
    refine Or.inl ⟨(rankOf bs)[0]!, h0, fun i hi hne => rank_first bs hi hne, ?_⟩
    by_cases c : j = (rankOf bs)[0]!
    · rw [← c]; exact hjr
    · have := rank_first bs hj c
      unfold ahead at this
      omega
  | false =>
    refine Or.inr ⟨isUnsold bs r h, fun i hi => ?_⟩
    by_cases c : bs[i]!.2 ≤ r
    · have := (someTo_iff bs r bs.length).2 ⟨i, hi, c⟩
      rw [h] at this; cases this
    · omega

/-- Two rows that differ in the bid at m alone, which is the carrier c's only one. -/
structure Differ (bs bs' : List Bd) (m : Nat) (c x y : Int) : Prop where
  len : bs'.length = bs.length
  lt : m < bs.length
  at1 : bs[m]! = (c, x)
  at2 : bs'[m]! = (c, y)
  same : ∀ i, i < bs.length → i ≠ m → bs'[i]! = bs[i]!
  only : ∀ i, i < bs.length → i ≠ m → bs[i]!.1 ≠ c

theorem Differ.symm {bs bs' : List Bd} {m : Nat} {c x y : Int} (D : Differ bs bs' m c x y) : Differ bs' bs m c y x :=
  ⟨D.len.symm, by rw [D.len]; exact D.lt, D.at2, D.at1, fun i hi hne => (D.same i (by rw [← D.len]; exact hi) hne).symm, fun i hi hne => by rw [D.same i (by rw [← D.len]; exact hi) hne]; exact D.only i (by rw [← D.len]; exact hi) hne⟩

theorem Differ.oth {bs bs' : List Bd} {m : Nat} {c x y : Int} (D : Differ bs bs' m c x y) (r : Int) : ∀ n, n ≤ bs.length → oth bs' m r n = oth bs m r n
  | 0, _ => rfl
  | n + 1, h => by
    unfold Vk.oth
    by_cases e : n = m
    · rw [if_pos e, if_pos e]; exact D.oth r n (by omega)
    · rw [if_neg e, if_neg e, D.oth r n (by omega), D.same n (by omega) e]

theorem Differ.oth_le {bs bs' : List Bd} {m : Nat} {c x y : Int} (D : Differ bs bs' m c x y) (hxy : x ≤ y) (r : Int) (k : Nat) : ∀ n, n ≤ bs.length → Vk.oth bs k r n ≤ Vk.oth bs' k r n
  | 0, _ => Int.le_refl _
  | n + 1, h => by
    have ih := D.oth_le hxy r k n (by omega)
    unfold Vk.oth
    by_cases e : n = k
    · rw [if_pos e, if_pos e]; exact ih
    · rw [if_neg e, if_neg e]
      by_cases e2 : n = m
      · subst e2; rw [D.at1, D.at2]; show min _ x ≤ min _ y; omega
      · rw [D.same n (by omega) e2]; omega

/-- Who wins by a bid wins by a lower one, at the same price. -/
theorem Differ.wins {bs bs' : List Bd} {m : Nat} {c x y : Int} (D : Differ bs bs' m c x y) (hxy : x ≤ y) (r : Int) (p : Int) (h : vickOf bs' r = ((2 : Int), c, p)) : vickOf bs r = ((2 : Int), c, p) := by
  rcases first_or_none bs' r with ⟨k, hk, hf, hle⟩ | ⟨h2, _⟩
  · have ho := vickOf_first bs' r k hk hf hle
    rw [h] at ho
    simp only [Prod.mk.injEq, true_and] at ho
    have hkm : k = m := by
      by_cases e : k = m
      · exact e
      · exact absurd ((congrArg Prod.fst (D.same k (by rw [← D.len]; exact hk) e)).symm.trans ho.1.symm) (D.only k (by rw [← D.len]; exact hk) e)
    subst hkm
    have hy : bs'[k]!.2 = y := by rw [D.at2]
    have := vickOf_first bs r k D.lt (fun i hi hne => by
      have a := hf i (by rw [D.len]; exact hi) hne
      unfold ahead at a ⊢
      rw [D.same i hi hne, D.at2] at a
      rw [D.at1]
      have hc := D.only i hi hne
      simp only at a ⊢
      omega) (by rw [D.at1]; show x ≤ r; omega)
    rw [this, D.at1]
    rw [D.len, D.oth r bs.length (Nat.le_refl _)] at ho
    rw [ho.2]
  · rw [h] at h2
    simp at h2

/-- Who loses, and bids more, loses; the same one wins, at no lower price. -/
theorem Differ.loses {bs bs' : List Bd} {m : Nat} {c x y : Int} (D : Differ bs bs' m c x y) (hxy : x ≤ y) (r : Int) (s w p s' w' p' : Int) (h : vickOf bs r = (s, w, p)) (h' : vickOf bs' r = (s', w', p')) (hl : ¬ (s = 2 ∧ w = c)) :
    s = s' ∧ w = w' ∧ p ≤ p' := by
  rcases first_or_none bs r with ⟨k, hk, hf, hle⟩ | ⟨h2, ha⟩
  · have ho := vickOf_first bs r k hk hf hle
    rw [h] at ho
    simp only [Prod.mk.injEq] at ho
    have hkm : k ≠ m := fun e => hl ⟨ho.1, by rw [ho.2.1, e, D.at1]⟩
    have := vickOf_first bs' r k (by rw [D.len]; exact hk) (fun i hi hne => by
      have a := hf i (by rw [← D.len]; exact hi) hne
      unfold ahead at a ⊢
      rw [D.same k hk hkm]
      by_cases e : i = m
      · subst e
        rw [D.at1] at a
        rw [D.at2]
        have hc := D.only k hk hkm
        simp only at a ⊢
        omega
      · rw [D.same i (by rw [← D.len]; exact hi) e]; exact a) (by rw [D.same k hk hkm]; exact hle)
    rw [h'] at this
    simp only [Prod.mk.injEq] at this
    rw [D.same k hk hkm, D.len] at this
    have hp := D.oth_le hxy r k bs.length (Nat.le_refl _)
    refine ⟨by omega, by omega, by omega⟩
  · rw [h] at h2
    simp only [Prod.mk.injEq] at h2
    rcases first_or_none bs' r with ⟨k, hk, hf, hle⟩ | ⟨h3, _⟩
    · exfalso
      have hk' : k < bs.length := by rw [← D.len]; exact hk
      by_cases e : k = m
      · subst e
        have := ha k hk'
        rw [D.at1] at this
        rw [D.at2] at hle
        simp only at this hle
        omega
      · have := ha k hk'
        rw [D.same k hk' e] at hle
        omega
    · rw [h'] at h3
      simp only [Prod.mk.injEq] at h3
      omega

end Go.Proofs.Ytdgedckfaefohaa.Vk
