/- Plain facts on bids: the order, the row of places, the outcome; no program in sight. -/
import Derived.Test.YtfnekbfcndkjeaaGreatDoorRows
import Derived.WalkKit
import Derived.WalkSpells
import Derived.WalkLawsBesides
import Derived.Lib.Hide
import Derived.IntWalk
import Derived.Deep.QuietTactic
import Derived.BigQuiet
import Derived.StillTailTactics
set_option linter.all false
namespace Go.Proofs.YtfnekbfcndkjeaaGreatDoor
open Go.RowKit
theorem isNaNU (x : Int) (w : World) : Calls Tryz.prog 108 #[.int .u64 x] w fun e w' => e = .returned (.bool false) ∧ w = w' := by
  go_enter Tryz.func108, Tryz.ntmps108
  go_wp2
  go_ret
  exact ⟨by simp, rfl⟩
theorem isNaNI (x : Int) (w : World) : Calls Tryz.prog 109 #[.int .i64 x] w fun e w' => e = .returned (.bool false) ∧ w = w' := by
  go_enter Tryz.func109, Tryz.ntmps109
  go_wp2
  go_ret
  exact ⟨by simp, rfl⟩
def cmpOf (x y : Int) : Int := if x < y then -1 else if y < x then 1 else 0
set_option maxHeartbeats 1000000 in
theorem compareU (x y : Int) (w : World) : Calls Tryz.prog 81 #[.int .u64 x, .int .u64 y] w fun e w' => e = .returned (.int .i64 (cmpOf x y)) ∧ w = w' := by
  unfold cmpOf
  by_cases h1 : x < y
  · rw [if_pos h1]
    go_enter Tryz.func81, Tryz.ntmps81
    go_wp2_with (go_at_call 108; refine (isNaNU _ _).mono ?_; rintro e w' ⟨rfl, rfl⟩)
    go_ret
    exact ⟨rfl, rfl⟩
  · rw [if_neg h1]
    by_cases h2 : y < x
    · rw [if_pos h2]
      go_enter Tryz.func81, Tryz.ntmps81
      go_wp2_with (go_at_call 108; refine (isNaNU _ _).mono ?_; rintro e w' ⟨rfl, rfl⟩)
      go_ret
      exact ⟨rfl, rfl⟩
    · rw [if_neg h2]
      go_enter Tryz.func81, Tryz.ntmps81
      go_wp2_with (go_at_call 108; refine (isNaNU _ _).mono ?_; rintro e w' ⟨rfl, rfl⟩)
      go_ret
      exact ⟨rfl, rfl⟩
set_option maxHeartbeats 1000000 in
theorem compareI (x y : Int) (w : World) : Calls Tryz.prog 82 #[.int .i64 x, .int .i64 y] w fun e w' => e = .returned (.int .i64 (cmpOf x y)) ∧ w = w' := by
  unfold cmpOf
  by_cases h1 : x < y
  · rw [if_pos h1]
    go_enter Tryz.func82, Tryz.ntmps82
    go_wp2_with (go_at_call 109; refine (isNaNI _ _).mono ?_; rintro e w' ⟨rfl, rfl⟩)
    go_ret
    exact ⟨rfl, rfl⟩
  · rw [if_neg h1]
    by_cases h2 : y < x
    · rw [if_pos h2]
      go_enter Tryz.func82, Tryz.ntmps82
      go_wp2_with (go_at_call 109; refine (isNaNI _ _).mono ?_; rintro e w' ⟨rfl, rfl⟩)
      go_ret
      exact ⟨rfl, rfl⟩
    · rw [if_neg h2]
      go_enter Tryz.func82, Tryz.ntmps82
      go_wp2_with (go_at_call 109; refine (isNaNI _ _).mono ?_; rintro e w' ⟨rfl, rfl⟩)
      go_ret
      exact ⟨rfl, rfl⟩
end Go.Proofs.YtfnekbfcndkjeaaGreatDoor
namespace Go.Proofs.YtfnekbfcndkjeaaGreatDoor.Vk
abbrev Bd := Int × Int
def ahead (bs : List Bd) (i k : Nat) : Prop := bs[i]!.2 < bs[k]!.2 ∨ (bs[i]!.2 = bs[k]!.2 ∧ (bs[i]!.1 < bs[k]!.1 ∨ (bs[i]!.1 = bs[k]!.1 ∧ i < k)))
instance (bs : List Bd) (i k : Nat) : Decidable (ahead bs i k) := by unfold ahead; infer_instance
theorem ahead_irrefl (bs : List Bd) (i : Nat) : ¬ ahead bs i i := by unfold ahead; omega
theorem ahead_trans (bs : List Bd) {i j k : Nat} (h1 : ahead bs i j) (h2 : ahead bs j k) : ahead bs i k := by unfold ahead at *; omega
theorem ahead_tot (bs : List Bd) {i k : Nat} (h : i ≠ k) : ahead bs i k ∨ ahead bs k i := by unfold ahead; omega
theorem ahead_asymm (bs : List Bd) {i k : Nat} (h : ahead bs i k) : ¬ ahead bs k i := fun h' => ahead_irrefl bs i (ahead_trans bs h h')
def ins (bs : List Bd) (x : Nat) : List Nat → List Nat
  | [] => [x]
  | y :: l => if ahead bs x y then x :: y :: l else y :: ins bs x l
def rankFrom (bs : List Bd) : List Nat → List Nat
  | [] => []
  | x :: l => ins bs x (rankFrom bs l)
def rankOf (bs : List Bd) : List Nat := rankFrom bs (List.range bs.length)
theorem mem_ins (bs : List Bd) (x z : Nat) : ∀ l, z ∈ ins bs x l ↔ z = x ∨ z ∈ l
  | [] => by simp [ins]
  | y :: l => by
    unfold ins
    split
    · simp
    · rw [List.mem_cons, mem_ins bs x z l, List.mem_cons]
      constructor
      · rintro (h | h | h) <;> simp [h]
      · rintro (h | h | h) <;> simp [h]
theorem length_ins (bs : List Bd) (x : Nat) : ∀ l, (ins bs x l).length = l.length + 1
  | [] => rfl
  | y :: l => by
    unfold ins
    split
    · rfl
    · simp [length_ins bs x l]
theorem sorted_ins (bs : List Bd) (x : Nat) : ∀ l, l.Pairwise (ahead bs) → x ∉ l → (ins bs x l).Pairwise (ahead bs)
  | [], _, _ => by simp [ins]
  | y :: l, h, hx => by
    obtain ⟨h1, h2⟩ := List.pairwise_cons.1 h
    unfold ins
    split
    · rename_i c
      refine List.pairwise_cons.2 ⟨fun z hz => ?_, h⟩
      rcases List.mem_cons.1 hz with rfl | hz
      · exact c
      · exact ahead_trans bs c (h1 z hz)
    · rename_i c
      have hne : x ≠ y := fun e => hx (by simp [e])
      refine List.pairwise_cons.2 ⟨fun z hz => ?_, sorted_ins bs x l h2 (fun e => hx (by simp [e]))⟩
      rcases (mem_ins bs x z l).1 hz with rfl | hz
      · exact (ahead_tot bs hne).resolve_left c
      · exact h1 z hz
theorem mem_rankFrom (bs : List Bd) (z : Nat) : ∀ l, z ∈ rankFrom bs l ↔ z ∈ l
  | [] => by simp [rankFrom]
  | x :: l => by unfold rankFrom; rw [mem_ins, mem_rankFrom bs z l, List.mem_cons]
theorem length_rankFrom (bs : List Bd) : ∀ l, (rankFrom bs l).length = l.length
  | [] => rfl
  | x :: l => by unfold rankFrom; rw [length_ins, length_rankFrom bs l]; rfl
theorem sorted_rankFrom (bs : List Bd) : ∀ l, l.Nodup → (rankFrom bs l).Pairwise (ahead bs)
  | [], _ => by simp [rankFrom]
  | x :: l, h => by
    obtain ⟨h1, h2⟩ := List.nodup_cons.1 h
    unfold rankFrom
    exact sorted_ins bs x _ (sorted_rankFrom bs l h2) (fun e => h1 ((mem_rankFrom bs x l).1 e))
theorem mem_rankOf (bs : List Bd) (z : Nat) : z ∈ rankOf bs ↔ z < bs.length := by unfold rankOf; rw [mem_rankFrom, List.mem_range]
theorem length_rankOf (bs : List Bd) : (rankOf bs).length = bs.length := by unfold rankOf; rw [length_rankFrom, List.length_range]
theorem sorted_rankOf (bs : List Bd) : (rankOf bs).Pairwise (ahead bs) := sorted_rankFrom bs _ List.nodup_range
theorem sub_of_sorted (bs : List Bd) : ∀ s r : List Nat, s.Pairwise (ahead bs) → r.Pairwise (ahead bs) → (∀ x ∈ r, x ∈ s) → List.Sublist r s
  | [], r, _, _, h => by
    cases r with
    | nil => exact List.Sublist.refl _
    | cons x r => exact absurd (h x (by simp)) (by simp)
  | y :: s, [], _, _, _ => List.nil_sublist _
  | y :: s, x :: r, hs, hr, h => by
    obtain ⟨s1, s2⟩ := List.pairwise_cons.1 hs
    obtain ⟨r1, r2⟩ := List.pairwise_cons.1 hr
    by_cases e : x = y
    · subst e
      refine List.Sublist.cons_cons _ (sub_of_sorted bs s r s2 r2 fun z hz => ?_)
      rcases List.mem_cons.1 (h z (by simp [hz])) with rfl | hz'
      · exact absurd (r1 z hz) (ahead_irrefl bs z)
      · exact hz'
    · have hx : x ∈ s := by
        rcases List.mem_cons.1 (h x (by simp)) with h' | h'
        · exact absurd h' e
        · exact h'
      refine List.Sublist.cons _ (sub_of_sorted bs s (x :: r) s2 hr fun z hz => ?_)
      rcases List.mem_cons.1 (h z hz) with rfl | hz'
      · rcases List.mem_cons.1 hz with rfl | hz2
        · exact absurd rfl e
        · exact absurd (r1 z hz2) (ahead_asymm bs (s1 x hx))
      · exact hz'
theorem rank_unique (bs : List Bd) (r : List Nat) (h1 : r.Pairwise (ahead bs)) (h2 : ∀ x ∈ r, x < bs.length) (h3 : r.length = bs.length) : r = rankOf bs :=
  (sub_of_sorted bs _ r (sorted_rankOf bs) h1 fun x hx => (mem_rankOf bs x).2 (h2 x hx)).eq_of_length (by rw [h3, length_rankOf])
theorem rank_of_cells (bs : List Bd) (f : Nat → Nat) (h1 : ∀ p q, p < q → q < bs.length → ahead bs (f p) (f q)) (h2 : ∀ p, p < bs.length → f p < bs.length) : (List.range bs.length).map f = rankOf bs := by
  refine rank_unique bs _ ?_ ?_ (by simp)
  · rw [List.pairwise_map, List.pairwise_iff_getElem]
    intro i j hi hj hij
    simp only [List.getElem_range]
    exact h1 i j hij (by simpa using hj)
  · intro x hx
    obtain ⟨p, hp, rfl⟩ := List.mem_map.1 hx
    exact h2 p (List.mem_range.1 hp)
def ofR (bs : List Bd) (r : List Nat) (reserve : Int) : Int × Int × Int :=
  match r with
  | [] => (3, -1, 0)
  | x :: l => if reserve < bs[x]!.2 then (3, -1, 0) else (2, bs[x]!.1, match l with | [] => reserve | y :: _ => min bs[y]!.2 reserve)
def vickOf (bs : List Bd) (reserve : Int) : Int × Int × Int := ofR bs (rankOf bs) reserve
theorem ahead_of (bs : List Bd) {i k : Nat} (h : i < k) (c : Int) (hc : c = (if (if bs[k]!.2 < bs[i]!.2 then (-1 : Int) else if bs[i]!.2 < bs[k]!.2 then 1 else 0) = 0 then (if bs[k]!.1 < bs[i]!.1 then (-1 : Int) else if bs[i]!.1 < bs[k]!.1 then 1 else 0) else (if bs[k]!.2 < bs[i]!.2 then (-1 : Int) else if bs[i]!.2 < bs[k]!.2 then 1 else 0))) :
    c < 0 ↔ ahead bs k i := by
  subst hc
  unfold ahead
  repeat' split
  all_goals omega
end Go.Proofs.YtfnekbfcndkjeaaGreatDoor.Vk
namespace Go.Proofs.YtfnekbfcndkjeaaGreatDoor
open Go.RowKit
def orOf (a b : Int) : Int := if a = 0 then b else a
set_option maxHeartbeats 1000000 in
theorem or2 (a b : Int) (blk : Nat) (w : World) (ha : w.cell? ⟨blk, 0, none⟩ = some (.int .i64 a)) (hb : w.cell? ⟨blk, 1, none⟩ = some (.int .i64 b)) :
    Calls Tryz.prog 80 #[.slice (some ⟨blk, 0, none⟩) 2 2] w fun e w' => e = .returned (.int .i64 (orOf a b)) ∧ w = w' := by
  unfold orOf
  by_cases h1 : a = 0
  · subst h1
    rw [if_pos rfl]
    by_cases h2 : b = 0
    · subst h2
      go_enter Tryz.func80, Tryz.ntmps80
      go_wp2
      refine wp_loop_rounds 3 ?_
      repeat (rw [rounds_succ]; go_wp2)
      go_ret
      exact ⟨rfl, rfl⟩
    · have h2' : (b == 0) = false := beq_eq_false_iff_ne.2 h2
      go_enter Tryz.func80, Tryz.ntmps80
      go_wp2
      refine wp_loop_rounds 3 ?_
      repeat (rw [rounds_succ]; go_wp2)
      go_ret
      exact ⟨rfl, rfl⟩
  · rw [if_neg h1]
    have h1' : (a == 0) = false := beq_eq_false_iff_ne.2 h1
    go_enter Tryz.func80, Tryz.ntmps80
    go_wp2
    refine wp_loop_rounds 3 ?_
    repeat (rw [rounds_succ]; go_wp2)
    go_ret
    exact ⟨rfl, rfl⟩
end Go.Proofs.YtfnekbfcndkjeaaGreatDoor
