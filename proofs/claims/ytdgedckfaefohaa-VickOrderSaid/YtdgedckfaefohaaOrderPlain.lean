/- Plain facts for VickOrder: the outcome goes by the sorted row of the bids; turning, reversing, and a bid above the reserve leave it. -/
import Derived.Test.YtdgedckfaefohaaVickPlain
namespace Go.Proofs.Ytdgedckfaefohaa.Vk

/-- A bid is not behind another one. -/
def bdLe (a b : Bd) : Prop := a.2 < b.2 ∨ (a.2 = b.2 ∧ a.1 ≤ b.1)

theorem bdLe_trans {a b c : Bd} (h1 : bdLe a b) (h2 : bdLe b c) : bdLe a c := by unfold bdLe at *; omega
theorem bdLe_anti {a b : Bd} (h1 : bdLe a b) (h2 : bdLe b a) : a = b := by
  unfold bdLe at *
  exact Prod.ext (by omega) (by omega)
theorem bdLe_tot (a b : Bd) : bdLe a b ∨ bdLe b a := by unfold bdLe; omega

/-- The outcome of a row of bids that is sorted. -/
def ofL (l : List Bd) (r : Int) : Int × Int × Int :=
  match l with
  | [] => (3, -1, 0)
  | x :: l => if r < x.2 then (3, -1, 0) else (2, x.1, match l with | [] => r | y :: _ => min y.2 r)

/-- The bids, sorted. -/
def sortedB (bs : List Bd) : List Bd := (rankOf bs).map (fun i => bs[i]!)

theorem vickOf_ofL (bs : List Bd) (r : Int) : vickOf bs r = ofL (sortedB bs) r := by
  unfold vickOf sortedB ofL ofR
  cases rankOf bs with
  | nil => rfl
  | cons x l =>
    simp only [List.map_cons]
    cases l with
    | nil => rfl
    | cons y l => rfl

theorem nodup_rankOf (bs : List Bd) : (rankOf bs).Nodup :=
  (sorted_rankOf bs).imp fun {a b} h e => by subst e; exact ahead_irrefl bs a h

theorem rank_perm (bs : List Bd) : (rankOf bs).Perm (List.range bs.length) :=
  (List.perm_ext_iff_of_nodup (nodup_rankOf bs) List.nodup_range).2 fun a => by rw [mem_rankOf, List.mem_range]

theorem map_range_get (bs : List Bd) : (List.range bs.length).map (fun i => bs[i]!) = bs := by
  apply List.ext_getElem
  · simp
  · intro i h1 h2
    simp only [List.getElem_map, List.getElem_range]
    exact getElem!_pos bs i h2

theorem sortedB_perm (bs : List Bd) : (sortedB bs).Perm bs := by
  have h := (rank_perm bs).map (fun i => bs[i]!)
  rw [map_range_get] at h
  exact h

theorem sortedB_sorted (bs : List Bd) : (sortedB bs).Pairwise bdLe := by
  unfold sortedB
  rw [List.pairwise_map]
  refine (sorted_rankOf bs).imp fun {a b} h => ?_
  unfold ahead at h
  unfold bdLe
  omega

theorem sortedB_unique (bs l : List Bd) (h1 : l.Perm bs) (h2 : l.Pairwise bdLe) : sortedB bs = l :=
  List.Perm.eq_of_pairwise (fun _ _ _ _ => bdLe_anti) (sortedB_sorted bs) h2 ((sortedB_perm bs).trans h1.symm)

/-- In which order bids stand makes no difference. -/
theorem vickOf_perm {a b : List Bd} (h : a.Perm b) (r : Int) : vickOf a r = vickOf b r := by
  rw [vickOf_ofL, vickOf_ofL, sortedB_unique a (sortedB b) ((sortedB_perm b).trans h.symm) (sortedB_sorted b)]

/-- A bid laid into a sorted row. -/
def layB (x : Bd) : List Bd → List Bd
  | [] => [x]
  | y :: l => if x.2 < y.2 ∨ (x.2 = y.2 ∧ x.1 ≤ y.1) then x :: y :: l else y :: layB x l

theorem layB_perm (x : Bd) : ∀ l, (layB x l).Perm (x :: l)
  | [] => List.Perm.refl _
  | y :: l => by
    unfold layB
    split
    · exact List.Perm.refl _
    · exact ((layB_perm x l).cons y).trans (List.Perm.swap x y l)

theorem layB_sorted (x : Bd) : ∀ l, l.Pairwise bdLe → (layB x l).Pairwise bdLe
  | [], _ => by simp [layB]
  | y :: l, h => by
    obtain ⟨h1, h2⟩ := List.pairwise_cons.1 h
    unfold layB
    split
    · rename_i c
      refine List.pairwise_cons.2 ⟨fun z hz => ?_, h⟩
      rcases List.mem_cons.1 hz with rfl | hz
      · exact c
      · exact bdLe_trans c (h1 z hz)
    · rename_i c
      refine List.pairwise_cons.2 ⟨fun z hz => ?_, layB_sorted x l h2⟩
      rcases List.mem_cons.1 ((layB_perm x l).mem_iff.1 hz) with rfl | hz
      · exact (bdLe_tot z y).resolve_left c
      · exact h1 z hz

/-- A bid more that is above the reserve makes no difference. -/
theorem ofL_lay (x : Bd) (r : Int) (hx : r < x.2) : ∀ l, l.Pairwise bdLe → ofL (layB x l) r = ofL l r
  | [], _ => by simp [layB, ofL, hx]
  | y :: l, h => by
    unfold layB
    split
    · rename_i c
      have hy : r < y.2 := by omega
      simp [ofL, hx, hy]
    · rename_i c
      simp only [ofL]
      by_cases hy : r < y.2
      · rw [if_pos hy, if_pos hy]
      · rw [if_neg hy, if_neg hy]
        congr 2
        cases l with
        | nil => simp [layB]; omega
        | cons z l =>
          by_cases c2 : x.2 < z.2 ∨ (x.2 = z.2 ∧ x.1 ≤ z.1)
          · have e : layB x (z :: l) = x :: z :: l := by simp only [layB]; rw [if_pos c2]
            rw [e]
            simp only
            omega
          · have e : layB x (z :: l) = z :: layB x l := by simp only [layB]; rw [if_neg c2]
            rw [e]

theorem vickOf_above (bs : List Bd) (c a r : Int) (h : r < a) : vickOf (bs ++ [(c, a)]) r = vickOf bs r := by
  rw [vickOf_ofL, vickOf_ofL, sortedB_unique (bs ++ [(c, a)]) (layB (c, a) (sortedB bs)) ?_ (layB_sorted _ _ (sortedB_sorted bs)), ofL_lay _ _ h _ (sortedB_sorted bs)]
  refine (layB_perm _ _).trans (((sortedB_perm bs).cons _).trans ?_)
  exact (List.perm_append_comm (l₁ := bs) (l₂ := [(c, a)])).symm

theorem vickOf_turn (bs : List Bd) (q : Nat) (r : Int) : vickOf (bs.drop q ++ bs.take q) r = vickOf bs r := by
  refine vickOf_perm ?_ r
  have := List.perm_append_comm (l₁ := bs.drop q) (l₂ := bs.take q)
  rwa [List.take_append_drop] at this

theorem vickOf_back (bs : List Bd) (r : Int) : vickOf bs.reverse r = vickOf bs r := vickOf_perm (List.reverse_perm bs) r

/-- The last k bids, backwards. -/
def backTo (bs : List Bd) (k : Nat) : List Bd := (bs.drop k).reverse

theorem backTo_step (bs : List Bd) (k : Nat) (h : k < bs.length) : backTo bs k = backTo bs (k + 1) ++ [bs[k]!] := by
  unfold backTo
  rw [getElem!_pos bs k h, List.drop_eq_getElem_cons h, List.reverse_cons]

theorem backTo_zero (bs : List Bd) : backTo bs 0 = bs.reverse := rfl
theorem backTo_all (bs : List Bd) : backTo bs bs.length = [] := by unfold backTo; simp
theorem length_backTo (bs : List Bd) (k : Nat) : (backTo bs k).length = bs.length - k := by unfold backTo; simp

/-- Is the place j among the first i of the row? -/
def seenTo (bs : List Bd) (i j : Nat) : Bool := decide (j ∈ (rankOf bs).take i)

theorem seenTo_fresh (bs : List Bd) {i : Nat} (hi : i < bs.length) : seenTo bs i (rankOf bs)[i]! = false := by
  have hl := length_rankOf bs
  unfold seenTo
  refine decide_eq_false fun h => ?_
  obtain ⟨k, hk, he⟩ := List.mem_iff_getElem.1 h
  simp only [List.length_take] at hk
  rw [List.getElem_take, getElem!_pos _ i (by omega)] at he
  have hs := sorted_rankOf bs
  rw [List.pairwise_iff_getElem] at hs
  have := hs k i (by omega) (by omega) (by omega)
  rw [he] at this
  exact ahead_irrefl bs _ this

theorem seenTo_step (bs : List Bd) {i : Nat} (hi : i < bs.length) (j : Nat) : seenTo bs (i + 1) j = if j = (rankOf bs)[i]! then true else seenTo bs i j := by
  have hl := length_rankOf bs
  unfold seenTo
  have ht : (rankOf bs).take (i + 1) = (rankOf bs).take i ++ [(rankOf bs)[i]] := List.take_succ_eq_append_getElem (by omega)
  rw [ht, getElem!_pos (rankOf bs) i (by omega)]
  by_cases e : j = (rankOf bs)[i]
  · rw [if_pos e]
    exact decide_eq_true (List.mem_append.2 (Or.inr (by simp [e])))
  · rw [if_neg e]
    congr 1
    rw [List.mem_append, List.mem_singleton]
    simp [e]

end Go.Proofs.Ytdgedckfaefohaa.Vk
