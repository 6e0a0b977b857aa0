/- Appending bids to a row of the call's own, whatever row of the call's own they come from. -/
import Derived.Test.YtdgedckfaefohaaIsWalk
import Derived.Laws.AppendOwnNone
import Derived.Deep.AppendLies
namespace Go.Proofs.Ytdgedckfaefohaa
open Go.RowKit Go.Sort
open Go.Proofs.Ytdgedckfaefohaa.Srt Go.Proofs.Ytdgedckfaefohaa.Vk

theorem Try.infoBid : (Try.prog.info? 32).map (fun i => (i.zero, i.size, i.bytes)) = some (some (.agg #[.int .i64 0, .int .u64 0]), 2, 16) := by kernel_rfl

theorem cellsOf_append (a b : List Bd) : cellsOf (a ++ b) = cellsOf a ++ cellsOf b := by
  induction a with
  | nil => rfl
  | cons x l ih => simp [cellsOf, ih]

theorem cellsOf_one (bs : List Bd) : ∀ u ∈ cellsOf bs, u.oneCell' = true := by
  induction bs with
  | nil => simp [cellsOf]
  | cons x l ih =>
    intro u hu
    simp only [cellsOf, List.mem_cons] at hu
    rcases hu with rfl | rfl | hu
    · rfl
    · rfl
    · exact ih u hu

/-- Bids in a row of the call's own. -/
def OwnBids (base : Nat) (w : World) (v : Value) (bs : List Bd) : Prop := w.ownsRow base 32 2 v bs.length (cellsOf bs)

theorem OwnBids.bids {base : Nat} {w : World} {v : Value} {bs : List Bd} (h : OwnBids base w v bs) : BidsAt w v bs := by
  obtain ⟨h1, h2⟩ := h
  rcases h2 with ⟨rfl, h3⟩ | ⟨g, cap, cur, rfl, hg, hh, hnc, hcm, hcs, htk⟩
  · exact .inl ⟨.inl rfl, List.length_eq_zero_iff.1 h3⟩
  · refine .inr ⟨g, 0, cap, rfl, fun _ => (Array.getElem?_eq_some_iff.1 hh).1, fun j hj => ?_⟩
    obtain ⟨c1, c2⟩ := get_cellsOf bs j hj
    rw [Nat.zero_add, cell_of_heap hh, cell_of_heap hh]
    have hl := length_cellsOf bs
    rw [← htk, List.getElem?_take_of_lt (by omega)] at c1 c2
    exact ⟨by simpa using c1, by simpa using c2⟩

theorem OwnBids.nil (base : Nat) (w : World) : OwnBids base w (.slice none 0 0) [] := World.ownsRow_nil _ _ _ _

/-- A row of literals. -/
theorem OwnBids.lit (base : Nat) (w : World) (bs : List Bd) (cs : Array Value) (g n : Nat) (hb : base ≤ w.heap.size) (hn : bs.length ≤ 1000) (h : cs.toList = cellsOf bs) (hg : g = w.heap.size) (hnn : n = bs.length) : OwnBids base (w.alloc (.cells cs 32)) (.slice (some ⟨g, 0, none⟩) n n) bs := by
  subst hg hnn
  unfold OwnBids
  rw [← h]
  exact World.ownsRow_lit w cs bs.length hb (by unfold maxLen; omega) (by rw [← Array.length_toList, h, length_cellsOf])

/-- **append(dst, src...)**: both of the call's own; src nil or not. -/
theorem wpList_append_bids {ops : Array Oper} {rest : List Oper} {o : Oper} {a : Act} {Q : Exit → Act → World → Prop} {w : World} (hgd : o.guard = none) (s x : Operand)
    (ho : o.op = .call { callee := .builtin .append, args := #[s, x], argTypes := #[22, 22] })
    (base base' : Nat) (v : Value) (bs : List Bd) (hs : a.eval s = v) (hown : OwnBids base w v bs) (vr : Value) (R : List Bd) (hx : a.eval x = vr) (hr : OwnBids base' w vr R)
    (hlen : bs.length + R.length ≤ 1000) (hbase : base ≤ w.heap.size)
    (h : ∀ v' w', OwnBids base w' v' (bs ++ R) → w.grownBy w' v.ownBlock → wpList Try.prog ops Q rest (a.put o.dst v') w') : wpList Try.prog ops Q (o :: rest) a w := by
  obtain ⟨i0, hi, hz0, hz1, hz2⟩ := info_parts Try.infoBid
  obtain ⟨h1, h2⟩ := hr
  rcases h2 with ⟨rfl, h3⟩ | ⟨g, cap, cur, rfl, hg, hh, hnc, hcm, hcs, htk⟩
  · obtain rfl := List.length_eq_zero_iff.1 h3
    refine wpList_append_own_none hgd s x 22 ho base 32 i0 2 Try.underlying22 hi v bs.length (cellsOf bs) hs hown hx ?_
    refine h v w (by rw [List.append_nil]; exact hown) ⟨rfl, rfl, rfl, Nat.le_refl _, fun _ _ _ => rfl⟩
  · refine wpList_append_own w hgd s x 22 ho base 32 i0 (.agg #[.int .i64 0, .int .u64 0]) 2 16 Try.underlying22 hi hz0 hz1 hz2 rfl (by decide) v bs.length (cellsOf bs) hs hown
      ⟨g, 0, none⟩ R.length cap (cellsOf R) hx (length_cellsOf R) (fun j u hu => ?_) (cellsOf_one R) (by unfold maxLen; omega) (by omega) hbase fun v' w' hown' hgrow _ => h v' w' ?_ hgrow
    · have hl := length_cellsOf R
      have hj : j < R.length * 2 := by
        have := (List.getElem?_eq_some_iff.1 hu).1
        omega
      refine World.news_of_block hh j u ?_
      rw [← htk, List.getElem?_take_of_lt hj] at hu
      exact hu
    · unfold OwnBids
      rw [List.length_append, cellsOf_append]
      exact hown'

/-- Kept by whatever turns another row. -/
theorem OwnBids.kept {base : Nat} {w w' : World} {v : Value} {bs : List Bd} {row : Option Nat} (h : OwnBids base w v bs) (hg : w.grownBy w' row) (hne : v.ownBlock = none ∨ v.ownBlock ≠ row) : OwnBids base w' v bs := World.ownsRow.kept h hg hne
theorem OwnBids.alloc {base : Nat} {w : World} {v : Value} {bs : List Bd} (h : OwnBids base w v bs) (o : Obj) : OwnBids base (w.alloc o) v bs := World.ownsRow.alloc h o
theorem OwnBids.below {base : Nat} {w w' : World} {v : Value} {bs : List Bd} (h : OwnBids base w v bs) (hb : Below w.heap.size w w') : OwnBids base w' v bs := by
  obtain ⟨h1, h2⟩ := h
  refine ⟨h1, h2.imp_right ?_⟩
  rintro ⟨g, cap, cur, e, hg, hh, r⟩
  exact ⟨g, cap, cur, e, hg, by rw [hb.block g (Array.getElem?_eq_some_iff.1 hh).1]; exact hh, r⟩
/-- A row of an older base is one of a lower base. -/
theorem OwnBids.block {base : Nat} {w : World} {v : Value} {bs : List Bd} (h : OwnBids base w v bs) : ∀ k, v.ownBlock = some k → base ≤ k ∧ k < w.heap.size := World.ownsRow.lt h

/-- What is left of the first k bids when the carrier c's are struck. -/
def restTo (bs : List Bd) (c : Int) : Nat → List Bd
  | 0 => []
  | k + 1 => if bs[k]!.1 = c then restTo bs c k else restTo bs c k ++ [bs[k]!]

theorem restTo_only (bs : List Bd) (c : Int) : ∀ k, ∀ x ∈ restTo bs c k, x.1 ≠ c
  | 0, x, h => by simp [restTo] at h
  | k + 1, x, h => by
    unfold restTo at h
    split at h
    · exact restTo_only bs c k x h
    · rename_i hne
      rcases List.mem_append.1 h with h | h
      · exact restTo_only bs c k x h
      · simp only [List.mem_singleton] at h; subst h; exact hne

theorem length_restTo (bs : List Bd) (c : Int) : ∀ k, (restTo bs c k).length ≤ k
  | 0 => Nat.le_refl _
  | k + 1 => by
    have := length_restTo bs c k
    unfold restTo
    split
    · omega
    · simp; omega

end Go.Proofs.Ytdgedckfaefohaa
