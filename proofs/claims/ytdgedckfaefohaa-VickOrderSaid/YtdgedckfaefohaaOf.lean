/- vick.Of: the outcome of a round. -/
import Derived.Test.YtdgedckfaefohaaLeast
import Derived.Deep.RegionHeld3
namespace Go.Proofs.Ytdgedckfaefohaa
open Go.RowKit Go.Sort
open Go.Proofs.Ytdgedckfaefohaa.Srt Go.Proofs.Ytdgedckfaefohaa.Vk

/-- The bids behind the first one of the row. -/
def tailBids (bs : List Bd) : List Int := ((rankOf bs).drop 1).map fun i => bs[i]!.2

theorem length_tailBids (bs : List Bd) : (tailBids bs).length = bs.length - 1 := by simp [tailBids, length_rankOf]

theorem minTo_head (xs : List Int) (r : Int) : ∀ k, k ≤ xs.length → (∀ i, i < xs.length → xs[0]! ≤ xs[i]!) → 1 ≤ xs.length →
    minTo (xs ++ [r]) k = if k < xs.length then xs[0]! else min xs[0]! r
  | 0, _, _, h1 => by
    rw [if_pos (by omega)]
    cases xs with
    | nil => simp at h1
    | cons x l => simp [minTo]
  | k + 1, hk, hs, h1 => by
    have ih := minTo_head xs r k (by omega) hs h1
    rw [if_pos (by omega)] at ih
    show min (minTo (xs ++ [r]) k) (xs ++ [r])[k + 1]! = _
    rw [ih]
    by_cases c : k + 1 < xs.length
    · rw [if_pos c]
      have : (xs ++ [r])[k + 1]! = xs[k + 1]! := by simp [List.getElem!_eq_getElem?_getD, List.getElem?_append_left c]
      rw [this]
      have := hs (k + 1) c
      omega
    · rw [if_neg c]
      have : (xs ++ [r])[k + 1]! = r := by
        rw [List.getElem!_eq_getElem?_getD, List.getElem?_append_right (by omega), show k + 1 - xs.length = 0 by omega]
        rfl
      rw [this]

theorem rank_get (bs : List Bd) {p q : Nat} (hpq : p < q) (hq : q < bs.length) : Vk.ahead bs (rankOf bs)[p]! (rankOf bs)[q]! := by
  have h := sorted_rankOf bs
  have hl := length_rankOf bs
  rw [List.pairwise_iff_getElem] at h
  have := h p q (by omega) (by omega) hpq
  rw [getElem!_pos (rankOf bs) p (by omega), getElem!_pos (rankOf bs) q (by omega)]
  exact this

theorem rank_lt (bs : List Bd) {p : Nat} (hp : p < bs.length) : (rankOf bs)[p]! < bs.length := by
  have hl := length_rankOf bs
  rw [getElem!_pos (rankOf bs) p (by omega)]
  exact (mem_rankOf bs _).1 (List.getElem_mem _)

theorem get_tailBids (bs : List Bd) {k : Nat} (hk : k + 1 < bs.length) : (tailBids bs)[k]! = bs[(rankOf bs)[k + 1]!]!.2 := by
  have hl := length_rankOf bs
  rw [getElem!_pos (tailBids bs) k (by rw [length_tailBids]; omega), getElem!_pos (rankOf bs) (k + 1) (by omega)]
  simp [tailBids]

/-- What Of comes to, where there is an outcome. -/
theorem vickOf_sold (bs : List Bd) (reserve : Int) (h1 : 1 ≤ bs.length) (h2 : ¬ reserve < bs[(rankOf bs)[0]!]!.2) :
    vickOf bs reserve = ((2 : Int), bs[(rankOf bs)[0]!]!.1, minTo (tailBids bs ++ [reserve]) (bs.length - 1)) := by
  have hl := length_rankOf bs
  have ht := length_tailBids bs
  have hs : ∀ i, i < (tailBids bs).length → (tailBids bs)[0]! ≤ (tailBids bs)[i]! := fun i hi => by
    rw [get_tailBids bs (by omega), get_tailBids bs (by omega)]
    by_cases c : i = 0
    · subst c; exact Int.le_refl _
    · have := rank_get bs (show 0 + 1 < i + 1 by omega) (by omega)
      unfold Vk.ahead at this
      omega
  have hget : 1 < bs.length → (tailBids bs)[0]! = bs[(rankOf bs)[1]!]!.2 := fun h => get_tailBids bs h
  unfold vickOf
  cases hr : rankOf bs with
  | nil => rw [hr] at hl; simp at hl; omega
  | cons x l =>
    rw [hr] at hl h2 hget
    have e0 : (x :: l)[0]! = x := rfl
    rw [e0] at h2 ⊢
    unfold ofR
    refine (if_neg h2).trans ?_
    congr 2
    cases l with
    | nil =>
      have : bs.length = 1 := by simpa using hl.symm
      have : tailBids bs = [] := by rw [← List.length_eq_zero_iff]; omega
      rw [this, ‹bs.length = 1›]
      simp [minTo]
    | cons y l =>
      have hlen : 2 ≤ bs.length := by simp at hl; omega
      rw [minTo_head _ _ _ (by omega) hs (by omega), if_neg (by omega), hget (by omega)]
      rfl

theorem vickOf_none (bs : List Bd) (reserve : Int) (h : bs.length = 0 ∨ reserve < bs[(rankOf bs)[0]!]!.2) : vickOf bs reserve = ((3 : Int), (-1 : Int), (0 : Int)) := by
  have hl := length_rankOf bs
  unfold vickOf
  cases hr : rankOf bs with
  | nil => rfl
  | cons x l =>
    rw [hr] at h hl
    unfold ofR
    rcases h with h | h
    · simp [h] at hl
    · exact if_pos h

/-- An outcome as a value. -/
def outV (x : Int × Int × Int) : Value := .agg #[.int .i64 x.1, .int .i64 x.2.1, .int .u64 x.2.2]

/-- What Of leaves. -/
def OfPost (bs : List Bd) (reserve : Int) (w : World) (e : Ending) (w' : World) : Prop := e = .returned (outV (vickOf bs reserve)) ∧ Below w.heap.size w w'

end Go.Proofs.Ytdgedckfaefohaa
