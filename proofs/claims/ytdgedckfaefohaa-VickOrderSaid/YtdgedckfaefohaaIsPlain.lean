/- Plain facts for VickIs: the winner's place, and what the price is. -/
import Derived.Test.YtdgedckfaefohaaRefOf
namespace Go.Proofs.Ytdgedckfaefohaa.Vk

/-- Is some of the first i bids at most the reserve? -/
def someTo (bs : List Bd) (r : Int) : Nat → Bool
  | 0 => false
  | i + 1 => someTo bs r i || decide (bs[i]!.2 ≤ r)

/-- The first of the first i places at which the carrier c has its least bid. -/
def atTo (bs : List Bd) (c : Int) : Nat → Option Nat
  | 0 => none
  | i + 1 => match atTo bs c i with
    | none => if bs[i]!.1 = c then some i else none
    | some k => if bs[i]!.1 = c ∧ bs[i]!.2 < bs[k]!.2 then some i else some k

def optI : Option Nat → Int
  | none => -1
  | some k => (k : Int)

theorem someTo_iff (bs : List Bd) (r : Int) : ∀ i, someTo bs r i = true ↔ ∃ j, j < i ∧ bs[j]!.2 ≤ r
  | 0 => by simp [someTo]
  | i + 1 => by
    unfold someTo
    rw [Bool.or_eq_true, someTo_iff bs r i, decide_eq_true_eq]
    constructor
    · rintro (⟨j, h1, h2⟩ | h)
      · exact ⟨j, by omega, h2⟩
      · exact ⟨i, by omega, h⟩
    · rintro ⟨j, h1, h2⟩
      by_cases c : j = i
      · subst c; exact Or.inr h2
      · exact Or.inl ⟨j, by omega, h2⟩

theorem atTo_lt (bs : List Bd) (c : Int) : ∀ i k, atTo bs c i = some k → k < i ∧ bs[k]!.1 = c
  | 0, k, h => by simp [atTo] at h
  | i + 1, k, h => by
    unfold atTo at h
    cases ha : atTo bs c i with
    | none =>
      rw [ha] at h
      by_cases e : bs[i]!.1 = c
      · simp only [e, if_true, Option.some.injEq] at h
        subst h; exact ⟨by omega, e⟩
      · simp only [e, if_false] at h; cases h
    | some m =>
      rw [ha] at h
      obtain ⟨h1, h2⟩ := atTo_lt bs c i m ha
      by_cases e : bs[i]!.1 = c ∧ bs[i]!.2 < bs[m]!.2
      · simp only [e, and_self, if_true, Option.some.injEq] at h
        subst h; exact ⟨by omega, e.1⟩
      · simp only [e, if_false, Option.some.injEq] at h
        subst h; exact ⟨by omega, h2⟩

/-- What is ahead of all others is found. -/
theorem atTo_first (bs : List Bd) (x : Nat) (hx : ∀ i, i < bs.length → i ≠ x → ahead bs x i) : ∀ i, x < i → i ≤ bs.length → atTo bs bs[x]!.1 i = some x
  | 0, h, _ => by omega
  | i + 1, h, hn => by
    by_cases e : i = x
    · subst e
      unfold atTo
      cases ha : atTo bs bs[i]!.1 i with
      | none => simp
      | some m =>
        obtain ⟨h1, h2⟩ := atTo_lt bs _ i m ha
        have := hx m (by omega) (by omega)
        unfold ahead at this
        simp only [true_and]
        rw [if_pos (by omega)]
    · unfold atTo
      rw [atTo_first bs x hx i (by omega) (by omega)]
      have := hx i (by omega) e
      unfold ahead at this
      simp only
      rw [if_neg (by omega)]

theorem rank_first (bs : List Bd) {i : Nat} (hi : i < bs.length) (hne : i ≠ (rankOf bs)[0]!) : ahead bs (rankOf bs)[0]! i := by
  obtain ⟨h1, h2⟩ := cnt_rank bs i hi
  have hp : 0 < cnt bs i bs.length := by
    rcases Nat.eq_zero_or_pos (cnt bs i bs.length) with h | h
    · rw [h] at h2; exact absurd h2.symm hne
    · exact h
  have h := sorted_rankOf bs
  have hl := length_rankOf bs
  rw [List.pairwise_iff_getElem] at h
  have := h 0 (cnt bs i bs.length) (by omega) (by omega) hp
  rw [getElem!_pos (rankOf bs) 0 (by omega)]
  rw [getElem!_pos (rankOf bs) _ (by omega)] at h2
  rw [h2] at this
  exact this

theorem rank_second (bs : List Bd) {i : Nat} (hi : i < bs.length) (hne : i ≠ (rankOf bs)[0]!) : 1 < bs.length ∧ bs[(rankOf bs)[1]!]!.2 ≤ bs[i]!.2 := by
  obtain ⟨h1, h2⟩ := cnt_rank bs i hi
  have hp : 0 < cnt bs i bs.length := by
    rcases Nat.eq_zero_or_pos (cnt bs i bs.length) with h | h
    · rw [h] at h2; exact absurd h2.symm hne
    · exact h
  refine ⟨by omega, ?_⟩
  by_cases c : cnt bs i bs.length = 1
  · rw [c] at h2; rw [h2]; exact Int.le_refl _
  · have h := sorted_rankOf bs
    have hl := length_rankOf bs
    rw [List.pairwise_iff_getElem] at h
    have := h 1 (cnt bs i bs.length) (by omega) (by omega) (by omega)
    rw [getElem!_pos (rankOf bs) 1 (by omega)]
    rw [getElem!_pos (rankOf bs) _ (by omega)] at h2
    rw [h2] at this
    unfold ahead at this
    omega

theorem rank_at0 (bs : List Bd) (h : 0 < bs.length) : (rankOf bs)[0]! < bs.length := by
  have hl := length_rankOf bs
  rw [getElem!_pos (rankOf bs) 0 (by omega)]
  exact (mem_rankOf bs _).1 (List.getElem_mem _)

theorem rank_at1 (bs : List Bd) (h : 1 < bs.length) : (rankOf bs)[1]! < bs.length ∧ (rankOf bs)[1]! ≠ (rankOf bs)[0]! := by
  have hl := length_rankOf bs
  have hs := sorted_rankOf bs
  rw [List.pairwise_iff_getElem] at hs
  have := hs 0 1 (by omega) (by omega) (by omega)
  rw [getElem!_pos (rankOf bs) 0 (by omega), getElem!_pos (rankOf bs) 1 (by omega)]
  exact ⟨(mem_rankOf bs _).1 (List.getElem_mem _), fun e => by rw [e] at this; exact ahead_irrefl bs _ this⟩

/-- All that VickIs asks of an outcome that is sold. -/
structure IsSold (bs : List Bd) (reserve : Int) (k : Nat) (p : Int) : Prop where
  lt : k < bs.length
  out : vickOf bs reserve = ((2 : Int), bs[k]!.1, p)
  at_ : atTo bs bs[k]!.1 bs.length = some k
  le : bs[k]!.2 ≤ p
  res : p ≤ reserve
  all : ∀ i, i < bs.length → i ≠ k → ¬ bs[i]!.2 < p ∧ ¬ bs[i]!.2 < bs[k]!.2 ∧ (bs[i]!.2 = bs[k]!.2 → ¬ bs[i]!.1 < bs[k]!.1)
  met : p = reserve ∨ ∃ i, i < bs.length ∧ i ≠ k ∧ bs[i]!.2 = p

theorem isSold (bs : List Bd) (reserve : Int) (h : someTo bs reserve bs.length = true) : ∃ k p, IsSold bs reserve k p := by
  obtain ⟨j, hj, hjr⟩ := (someTo_iff bs reserve _).1 h
  have hn : 0 < bs.length := by omega
  have h0 := rank_at0 bs hn
  have hle : bs[(rankOf bs)[0]!]!.2 ≤ reserve := by
    by_cases c : j = (rankOf bs)[0]!
    · rw [← c]; exact hjr
    · have := rank_first bs hj c
      unfold ahead at this
      omega
  have hat := atTo_first bs (rankOf bs)[0]! (fun i hi hne => rank_first bs hi hne) bs.length h0 (Nat.le_refl _)
  by_cases h2 : 1 < bs.length
  · obtain ⟨h11, h12⟩ := rank_at1 bs h2
    have ho := vickOf_two bs reserve h2 (by omega)
    have hr1 := rank_first bs h11 h12
    unfold ahead at hr1
    refine ⟨_, _, ⟨h0, ho, hat, by omega, by omega, fun i hi hne => ?_, ?_⟩⟩
    · have a1 := rank_first bs hi hne
      have a2 := (rank_second bs hi hne).2
      unfold ahead at a1
      exact ⟨by omega, by omega, fun e => by omega⟩
    · by_cases c : bs[(rankOf bs)[1]!]!.2 ≤ reserve
      · exact Or.inr ⟨_, h11, h12, by omega⟩
      · exact Or.inl (by omega)
  · have ho := vickOf_one bs reserve (by omega) (by omega)
    exact ⟨_, _, ⟨h0, ho, hat, hle, Int.le_refl _, fun i hi hne => by have := (rank_second bs hi hne).1; omega, Or.inl rfl⟩⟩

theorem isUnsold (bs : List Bd) (reserve : Int) (h : someTo bs reserve bs.length = false) : vickOf bs reserve = ((3 : Int), (-1 : Int), (0 : Int)) := by
  refine vickOf_none bs reserve ?_
  by_cases c : bs.length = 0
  · exact Or.inl c
  · right
    have h0 := rank_at0 bs (by omega)
    by_cases c2 : bs[(rankOf bs)[0]!]!.2 ≤ reserve
    · have := (someTo_iff bs reserve bs.length).2 ⟨_, h0, c2⟩
      rw [h] at this; cases this
    · omega

/-- Has one of the first i bids, the winner's left out, just that number? -/
def metTo (bs : List Bd) (k : Nat) (p : Int) (m : Bool) : Nat → Bool
  | 0 => m
  | i + 1 => if i = k then metTo bs k p m i else metTo bs k p m i || (bs[i]!.2 == p)

theorem metTo_of (bs : List Bd) (k : Nat) (p : Int) (m : Bool) : ∀ n, (m = true ∨ ∃ i, i < n ∧ i ≠ k ∧ bs[i]!.2 = p) → metTo bs k p m n = true
  | 0, h => by
    rcases h with h | ⟨i, h, _⟩
    · exact h
    · omega
  | n + 1, h => by
    unfold metTo
    split
    · rename_i e
      refine metTo_of bs k p m n (h.imp_right ?_)
      rintro ⟨i, h1, h2, h3⟩
      exact ⟨i, by omega, h2, h3⟩
    · rw [Bool.or_eq_true, beq_iff_eq]
      rcases h with h | ⟨i, h1, h2, h3⟩
      · exact Or.inl (metTo_of bs k p m n (Or.inl h))
      · by_cases c : i = n
        · subst c; exact Or.inr h3
        · exact Or.inl (metTo_of bs k p m n (Or.inr ⟨i, by omega, h2, h3⟩))

end Go.Proofs.Ytdgedckfaefohaa.Vk
