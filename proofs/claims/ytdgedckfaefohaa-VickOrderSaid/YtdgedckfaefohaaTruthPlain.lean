/- Plain facts for VickTruth: what a carrier gains. -/
import Derived.Test.YtdgedckfaefohaaOwnPlain
namespace Go.Proofs.Ytdgedckfaefohaa.Vk

/-- What the carrier c gains by an outcome, if it costs it that: what more, and what it loses. -/
def gainOf (s j p c cost : Int) : Int × Int := if s = 2 ∧ j = c then (if cost ≤ p then (p - cost, 0) else (0, cost - p)) else (0, 0)

theorem Differ.mid (A B : List Bd) (c x y : Int) (h : ∀ b ∈ A ++ B, b.1 ≠ c) : Differ (A ++ [(c, x)] ++ B) (A ++ [(c, y)] ++ B) A.length c x y where
  len := by simp
  lt := by simp
  at1 := by simp
  at2 := by simp
  same := fun i hi hne => by
    have hi' : i < A.length + 1 + B.length := by simp at hi; omega
    rw [getElem!_pos _ i (by simp; omega), getElem!_pos _ i (by simp; omega)]
    by_cases hlt : i < A.length
    · rw [List.getElem_append_left (by simp; omega), List.getElem_append_left hlt, List.getElem_append_left (by simp; omega), List.getElem_append_left hlt]
    · rw [List.getElem_append_right (by simp; omega), List.getElem_append_right (by simp; omega)]
      (simp)
  only := fun i hi hne => by
    have hi' : i < A.length + 1 + B.length := by simp at hi; omega
    rw [getElem!_pos _ i (by simp; omega)]
    by_cases hlt : i < A.length
    · rw [List.getElem_append_left (by simp; omega), List.getElem_append_left hlt]
      exact h _ (List.mem_append_left _ (List.getElem_mem hlt))
    · rw [List.getElem_append_right (by simp; omega)]
      exact h _ (List.mem_append_right _ (List.getElem_mem _))

/-- Who bids the cost pays no less than it; and who wins by another bid, at more than the cost, wins by the cost, at that price. -/
theorem Differ.truth {bs bs' : List Bd} {m : Nat} {c x y : Int} (D : Differ bs bs' m c x y) (r s w p s' w' p' : Int) (h : vickOf bs r = (s, w, p)) (h' : vickOf bs' r = (s', w', p')) :
    (s = 2 ∧ w = c → x ≤ p) ∧ (s' = 2 ∧ w' = c → x < p' → s = 2 ∧ w = c ∧ p = p') := by
  have pos : ∀ {bs bs' : List Bd} {x y : Int} (_ : Differ bs bs' m c x y) {s w p : Int}, vickOf bs r = (s, w, p) → s = 2 ∧ w = c → (∀ i, i < bs.length → i ≠ m → ahead bs m i) ∧ x ≤ r ∧ p = Vk.oth bs m r bs.length := by
    intro bs bs' x y D s w p h hw
    obtain ⟨rfl, rfl⟩ := hw
    rcases first_or_none bs r with ⟨k, hk, hf, hle⟩ | ⟨h2, _⟩
    · have ho := vickOf_first bs r k hk hf hle
      rw [h] at ho
      simp only [Prod.mk.injEq, true_and] at ho
      have hkm : k = m := by
        by_cases e : k = m
        · exact e
        · exact absurd ho.1.symm (D.only k hk e)
      subst hkm
      exact ⟨hf, by have := hle; rw [D.at1] at this; exact this, ho.2⟩
    · rw [h] at h2
      simp at h2
  refine ⟨fun hw => ?_, fun hw hx => ?_⟩
  · obtain ⟨hf, hle, hp⟩ := pos D h hw
    rcases oth_met bs m r bs.length with e | ⟨i, hi, hne, e⟩
    · omega
    · have := hf i hi hne
      unfold ahead at this
      rw [D.at1] at this
      simp only at this
      omega
  · obtain ⟨hf, hle, hp⟩ := pos D.symm h' hw
    rw [D.len, D.oth r bs.length (Nat.le_refl _)] at hp
    obtain ⟨g1, g2⟩ := Vk.oth_le bs m r bs.length
    have := vickOf_first bs r m D.lt (fun i hi hne => by
      have := g2 i hi hne
      unfold ahead
      rw [D.at1]
      simp only
      omega) (by rw [D.at1]; simp only; omega)
    rw [h, D.at1] at this
    simp only [Prod.mk.injEq] at this
    exact ⟨this.1, this.2.1, by omega⟩

/-- The price lies where the numbers lie. -/
theorem vickOf_price (bs : List Bd) (r s w p lo hi : Int) (h : vickOf bs r = (s, w, p)) (hlo : lo ≤ 0) (hhi : 0 ≤ hi) (hr : lo ≤ r ∧ r ≤ hi) (hb : ∀ i, i < bs.length → lo ≤ bs[i]!.2 ∧ bs[i]!.2 ≤ hi) : lo ≤ p ∧ p ≤ hi := by
  rcases first_or_none bs r with ⟨k, hk, hf, hle⟩ | ⟨h2, _⟩
  · have ho := vickOf_first bs r k hk hf hle
    rw [h] at ho
    simp only [Prod.mk.injEq] at ho
    rcases oth_met bs k r bs.length with e | ⟨i, h1, h2, h3⟩
    · omega
    · have := hb i h1; omega
  · rw [h] at h2
    simp only [Prod.mk.injEq] at h2
    omega

/-- The theorem in numbers. -/
theorem Differ.gains {bs bs' : List Bd} {m : Nat} {c x y : Int} (D : Differ bs bs' m c x y) (r s w p s' w' p' : Int) (h : vickOf bs r = (s, w, p)) (h' : vickOf bs' r = (s', w', p')) :
    (gainOf s w p c x).2 = 0 ∧ ((gainOf s' w' p' c x).1 ≤ (gainOf s w p c x).1 ∨ 0 < (gainOf s' w' p' c x).2) := by
  obtain ⟨h1, h2⟩ := D.truth r s w p s' w' p' h h'
  unfold gainOf
  by_cases a : s = 2 ∧ w = c
  · have := h1 a
    rw [if_pos a, if_pos this]
    refine ⟨rfl, ?_⟩
    by_cases b : s' = 2 ∧ w' = c
    · rw [if_pos b]
      by_cases e : x ≤ p'
      · rw [if_pos e]
        left
        by_cases e2 : x < p'
        · have := (h2 b e2).2.2; simp only; omega
        · simp only; omega
      · rw [if_neg e]; right; simp only; omega
    · rw [if_neg b]; left; simp only; omega
  · rw [if_neg a]
    refine ⟨rfl, ?_⟩
    by_cases b : s' = 2 ∧ w' = c
    · rw [if_pos b]
      by_cases e : x ≤ p'
      · rw [if_pos e]
        left
        by_cases e2 : x < p'
        · exact absurd ⟨(h2 b e2).1, (h2 b e2).2.1⟩ a
        · simp only; omega
      · rw [if_neg e]; right; simp only; omega
    · rw [if_neg b]; left; simp only; omega

end Go.Proofs.Ytdgedckfaefohaa.Vk
