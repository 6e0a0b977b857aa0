/- Plain facts: how many bids are ahead of one is its place in the row. -/
import Derived.Test.YtdgedckfaefohaaVickPlain
namespace Go.Proofs.Ytdgedckfaefohaa.Vk

/-- How many of the first k bids are ahead of the bid at i. -/
def cnt (bs : List Bd) (i : Nat) : Nat → Nat
  | 0 => 0
  | k + 1 => cnt bs i k + if ahead bs k i then 1 else 0

theorem cnt_le (bs : List Bd) (i : Nat) : ∀ k, cnt bs i k ≤ k
  | 0 => Nat.le_refl _
  | k + 1 => by
    have := cnt_le bs i k
    unfold cnt
    split <;> omega

theorem cnt_filter (bs : List Bd) (i : Nat) : ∀ k, cnt bs i k = ((List.range k).filter fun j => decide (ahead bs j i)).length
  | 0 => rfl
  | k + 1 => by
    unfold cnt
    rw [List.range_succ, List.filter_append, List.length_append, ← cnt_filter bs i k]
    by_cases h : ahead bs k i <;> simp [h]

theorem perm_ins (bs : List Bd) (x : Nat) : ∀ l, (ins bs x l).Perm (x :: l)
  | [] => List.Perm.refl _
  | y :: l => by
    unfold ins
    split
    · exact List.Perm.refl _
    · exact ((perm_ins bs x l).cons y).trans (List.Perm.swap x y l)

theorem perm_rankFrom (bs : List Bd) : ∀ l, (rankFrom bs l).Perm l
  | [] => List.Perm.refl _
  | x :: l => by unfold rankFrom; exact (perm_ins bs x _).trans ((perm_rankFrom bs l).cons x)

theorem perm_rankOf (bs : List Bd) : (rankOf bs).Perm (List.range bs.length) := perm_rankFrom bs _

theorem filter_mid (bs : List Bd) (l1 l2 : List Nat) (x : Nat) (h : (l1 ++ x :: l2).Pairwise (ahead bs)) : ((l1 ++ x :: l2).filter fun j => decide (ahead bs j x)).length = l1.length := by
  rw [List.pairwise_append] at h
  obtain ⟨_, h2, h3⟩ := h
  rw [List.filter_append, List.filter_eq_self.2 (fun y hy => by simpa using h3 y hy x (by simp)), List.filter_eq_nil_iff.2 (fun y hy => by
    rcases List.mem_cons.1 hy with rfl | hy
    · simpa using ahead_irrefl bs _
    · simpa using ahead_asymm bs ((List.pairwise_cons.1 h2).1 y hy)), List.append_nil]

theorem filter_sorted (bs : List Bd) (r : List Nat) (h : r.Pairwise (ahead bs)) (p : Nat) (hp : p < r.length) : (r.filter fun j => decide (ahead bs j r[p])).length = p := by
  have hs : r = r.take p ++ r[p] :: r.drop (p + 1) := by rw [List.getElem_cons_drop, List.take_append_drop]
  have h2 : (r.take p ++ r[p] :: r.drop (p + 1)).Pairwise (ahead bs) := by rw [← hs]; exact h
  have := filter_mid bs _ _ _ h2
  rw [← hs, List.length_take] at this
  omega

/-- The bid at i stands in the row where so many are ahead of it. -/
theorem cnt_rank (bs : List Bd) (i : Nat) (hi : i < bs.length) : cnt bs i bs.length < bs.length ∧ (rankOf bs)[cnt bs i bs.length]! = i := by
  have hl := length_rankOf bs
  obtain ⟨p, hp, he⟩ := List.getElem_of_mem ((mem_rankOf bs i).2 hi)
  have h1 := filter_sorted bs (rankOf bs) (sorted_rankOf bs) p hp
  rw [he] at h1
  have h2 : cnt bs i bs.length = p := by
    rw [cnt_filter, ← h1]
    exact ((perm_rankOf bs).filter _).length_eq.symm
  rw [h2]
  exact ⟨by omega, by rw [getElem!_pos (rankOf bs) p hp, he]⟩

theorem cnt_inj (bs : List Bd) {i j : Nat} (hi : i < bs.length) (hj : j < bs.length) (h : cnt bs i bs.length = cnt bs j bs.length) : i = j := by
  rw [← (cnt_rank bs i hi).2, h, (cnt_rank bs j hj).2]

/-- Each place is the number of some bid. -/
theorem cnt_sur (bs : List Bd) {p : Nat} (hp : p < bs.length) : (rankOf bs)[p]! < bs.length ∧ cnt bs (rankOf bs)[p]! bs.length = p := by
  have hl := length_rankOf bs
  have hlt : (rankOf bs)[p]! < bs.length := by
    rw [getElem!_pos (rankOf bs) p (by omega)]
    exact (mem_rankOf bs _).1 (List.getElem_mem _)
  refine ⟨hlt, ?_⟩
  have h1 := filter_sorted bs (rankOf bs) (sorted_rankOf bs) p (by omega)
  rw [cnt_filter, getElem!_pos (rankOf bs) p (by omega)]
  exact ((perm_rankOf bs).filter _).length_eq.symm.trans h1

end Go.Proofs.Ytdgedckfaefohaa.Vk
