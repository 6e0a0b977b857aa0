/- Plain facts: the blocks of the stable sort, merged two by two. -/
import Derived.Test.YtdgedckfaefohaaSortPlain
namespace Go.Proofs.Ytdgedckfaefohaa.Srt
open Go.Sort
variable {α : Type} [Inhabited α] {T : α → α → Prop} {ix : α → Nat}

/-- All blocks of bs cells are sorted. -/
def Blocks (T : α → α → Prop) (ix : α → Nat) (d : Array α) (bs n : Nat) : Prop := ∀ k, Good T ix d (k * bs) (min (k * bs + bs) n)

/-- q pairs of blocks are merged. -/
structure Pairs (T : α → α → Prop) (ix : α → Nat) (d : Array α) (bs n q : Nat) : Prop where
  done : ∀ j, j < q → Good T ix d (j * (2 * bs)) (j * (2 * bs) + 2 * bs)
  rest : ∀ j, 2 * q ≤ j → Good T ix d (j * bs) (min (j * bs + bs) n)

theorem Good.none {d : Array α} {lo hi : Nat} (h : hi ≤ lo) : Good T ix d lo hi := ⟨fun p h1 h2 => by omega, fun p q h1 h2 h3 => by omega⟩

theorem Pairs.start {d : Array α} {bs n : Nat} (h : Blocks T ix d bs n) : Pairs T ix d bs n 0 := ⟨fun j hj => by omega, fun j _ => h j⟩

theorem two_mul_bs (q bs : Nat) : 2 * q * bs = q * (2 * bs) := by rw [Nat.mul_comm 2 q, Nat.mul_assoc]
theorem two_mul_bs1 (q bs : Nat) : (2 * q + 1) * bs = q * (2 * bs) + bs := by rw [Nat.succ_mul, two_mul_bs]
theorem le_pairs {j q : Nat} (bs : Nat) (h : j < q) : j * (2 * bs) + 2 * bs ≤ q * (2 * bs) := by
  have := Nat.mul_le_mul_right (2 * bs) (Nat.succ_le_of_lt h)
  rw [Nat.succ_mul] at this
  exact this
theorem le_blocks {j q : Nat} (bs : Nat) (h : 2 * q + 2 ≤ j) : q * (2 * bs) + 2 * bs ≤ j * bs := by
  have := Nat.mul_le_mul_right bs h
  rw [show 2 * q + 2 = 2 * (q + 1) by omega, two_mul_bs, Nat.succ_mul] at this
  exact this

theorem Pairs.first {d : Array α} {bs n q a : Nat} (h : Pairs T ix d bs n q) (ha : a = q * (2 * bs)) (hb : a + bs ≤ n) : Good T ix d a (a + bs) := by
  have := h.rest (2 * q) (Nat.le_refl _)
  rw [two_mul_bs, ← ha, Nat.min_eq_left hb] at this
  exact this

theorem Pairs.second {d : Array α} {bs n q a : Nat} (h : Pairs T ix d bs n q) (ha : a = q * (2 * bs)) : Good T ix d (a + bs) (min (a + 2 * bs) n) := by
  have := h.rest (2 * q + 1) (by omega)
  rw [two_mul_bs1, ← ha, show a + bs + bs = a + 2 * bs by omega] at this
  exact this

theorem Pairs.step {d d' : Array α} {bs n q a : Nat} (h : Pairs T ix d bs n q) (ha : a = q * (2 * bs)) (hb : a + 2 * bs ≤ n) (M : Merged T d d' a (a + 2 * bs)) : Pairs T ix d' bs n (q + 1) := by
  have g1 := h.first ha (by omega)
  have g2 := h.second ha
  rw [Nat.min_eq_left hb] at g2
  refine ⟨fun j hj => ?_, fun j hj => ?_⟩
  · by_cases c : j = q
    · subst c; rw [← ha]; exact Good.merged (g1.own2 g2 (by omega) (by omega)) M
    · have := le_pairs bs (show j < q by omega)
      exact (h.done j (by omega)).kept M (Or.inl (by omega))
  · have := le_blocks (q := q) bs (show 2 * q + 2 ≤ j by omega)
    exact (h.rest j (by omega)).kept M (Or.inr (by omega))

theorem Pairs.finish {d d' : Array α} {bs n q a : Nat} (h : Pairs T ix d bs n q) (ha : a = q * (2 * bs)) (hn : n < a + 2 * bs) (hb : a + bs < n) (M : Merged T d d' a n) : Blocks T ix d' (2 * bs) n := by
  have g1 := h.first ha (by omega)
  have g2 := h.second ha
  rw [Nat.min_eq_right (by omega)] at g2
  intro k
  by_cases c : k = q
  · subst c
    rw [← ha, Nat.min_eq_right (by omega)]
    exact Good.merged (g1.own2 g2 (by omega) (by omega)) M
  · by_cases c2 : k < q
    · have := le_pairs bs c2
      rw [Nat.min_eq_left (by omega)]
      exact (h.done k c2).kept M (Or.inl (by omega))
    · have := le_pairs bs (show q < k by omega)
      exact Good.none (by omega)

theorem Pairs.finish_none {d : Array α} {bs n q a : Nat} (h : Pairs T ix d bs n q) (ha : a = q * (2 * bs)) (hn : n < a + 2 * bs) (ha' : a ≤ n) (hb : n ≤ a + bs) : Blocks T ix d (2 * bs) n := by
  intro k
  by_cases c : k = q
  · subst c
    rw [← ha, Nat.min_eq_right (by omega)]
    have := h.rest (2 * k) (Nat.le_refl _)
    rw [two_mul_bs, ← ha, Nat.min_eq_right (by omega)] at this
    exact this
  · by_cases c2 : k < q
    · have := le_pairs bs c2
      rw [Nat.min_eq_left (by omega)]
      exact h.done k c2
    · have := le_pairs bs (show q < k by omega)
      exact Good.none (by omega)

/-- The first blocks. -/
theorem Blocks.of20 {d : Array α} {n q : Nat} (h : ∀ k, k < q → Good T ix d (20 * k) (20 * k + 20)) (hq : 20 * q ≤ n) (hn : n < 20 * q + 20) (g : Good T ix d (20 * q) n) : Blocks T ix d 20 n := by
  intro k
  rw [Nat.mul_comm k 20]
  by_cases c : k = q
  · subst c; rw [Nat.min_eq_right (by omega)]; exact g
  · by_cases c2 : k < q
    · rw [Nat.min_eq_left (by omega)]; exact h k c2
    · exact Good.none (by omega)

theorem Blocks.all {d : Array α} {bs n : Nat} (h : Blocks T ix d bs n) (hb : n ≤ bs) : Good T ix d 0 n := by
  have := h 0
  rw [Nat.zero_mul, Nat.min_eq_right (by omega)] at this
  exact this

/-- What is still as it was. -/
theorem own_of_same {d : Array α} {a b : Nat} (h : ∀ p, a ≤ p → p < b → ix d[p]! = p) : (∀ p, a ≤ p → p < b → a ≤ ix d[p]! ∧ ix d[p]! < b) ∧ (∀ p q, a ≤ p → p < q → q < b → ix d[p]! < ix d[q]!) :=
  ⟨fun p h1 h2 => by rw [h p h1 h2]; exact ⟨h1, h2⟩, fun p q h1 h2 h3 => by rw [h p h1 (by omega), h q (by omega) h3]; exact h2⟩

end Go.Proofs.Ytdgedckfaefohaa.Srt
