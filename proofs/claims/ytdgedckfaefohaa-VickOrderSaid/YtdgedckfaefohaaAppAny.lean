/- Appending bids, whatever row they come from; at the list of a plain region and at a step of a region that draws. -/
import Derived.Test.YtdgedckfaefohaaAppBids
namespace Go.Proofs.Ytdgedckfaefohaa
open Go.RowKit Go.Sort
open Go.Proofs.Ytdgedckfaefohaa.Srt Go.Proofs.Ytdgedckfaefohaa.Vk

theorem BidCells.news {w : World} {lb lo : Nat} {R : List Bd} (h : BidCells w lb lo R) (j : Nat) (u : Value) (hu : (cellsOf R)[j]? = some u) : w.cell? ((⟨lb, lo, none⟩ : Addr).add j) = some u := by
  have hadd : (⟨lb, lo, none⟩ : Addr).add j = ⟨lb, lo + j, none⟩ := by
    unfold Addr.add
    split
    · rename_i hk; subst hk; rfl
    · rfl
  have hl := length_cellsOf R
  have hj := (List.getElem?_eq_some_iff.1 hu).1
  rw [hadd]
  have hq : j / 2 < R.length := by omega
  obtain ⟨c0, c1⟩ := get_cellsOf R (j / 2) hq
  obtain ⟨b0, b1⟩ := h (j / 2) hq
  rcases Nat.mod_two_eq_zero_or_one j with e | e
  · have e2 : j / 2 * 2 = j := by omega
    rw [e2] at c0 b0
    rw [c0] at hu
    rw [b0, ← hu]
  · have e2 : j / 2 * 2 + 1 = j := by omega
    rw [e2] at c1
    rw [c1] at hu
    rw [show lo + j / 2 * 2 + 1 = lo + j by omega] at b1
    rw [b1, ← hu]

/-- At the operation. -/
theorem wp_append_any {o : Oper} {a : Act} {K : Act → World → Prop} {Q : Exit → Act → World → Prop} {w : World} (s x : Operand)
    (ho : o.op = .call { callee := .builtin .append, args := #[s, x], argTypes := #[22, 22] })
    (base : Nat) (v : Value) (bs : List Bd) (hs : a.eval s = v) (hown : OwnBids base w v bs) (vr : Value) (R : List Bd) (hx : a.eval x = vr) (hr : BidsAt w vr R)
    (hlen : bs.length + R.length ≤ 1000) (hbase : base ≤ w.heap.size)
    (h : ∀ v' w', OwnBids base w' v' (bs ++ R) → w.grownBy w' v.ownBlock → K (a.put o.dst v') w') : o.wp Try.prog a w K Q := by
  obtain ⟨i0, hi, hz0, hz1, hz2⟩ := info_parts Try.infoBid
  have key : ∀ (ad : Addr) (c : Nat), a.eval x = .slice (some ad) R.length c → (∀ j u, (cellsOf R)[j]? = some u → w.cell? (ad.add j) = some u) → o.wp Try.prog a w K Q := fun ad c hx hnews => by
    refine wp_append_own w s x 22 ho base 32 i0 (.agg #[.int .i64 0, .int .u64 0]) 2 16 Try.underlying22 hi hz0 hz1 hz2 rfl (by decide) v bs.length (cellsOf bs) hs hown
      ad R.length c (cellsOf R) hx (length_cellsOf R) hnews (cellsOf_one R) (by unfold maxLen; omega) (by omega) hbase fun v' w' hown' hgrow _ => h v' w' ?_ hgrow
    unfold OwnBids
    rw [List.length_append, cellsOf_append]
    exact hown'
  rcases hr with ⟨rfl | ⟨ad, cap, rfl⟩, rfl⟩ | ⟨lb, lo, cap, rfl, hll, hl⟩
  · have hrun := run_append_owned_none (P := Try.prog) (w := w) base 22 o.type 32 i0 2 Try.underlying22 hi v bs.length (cellsOf bs) hown
    unfold Oper.wp
    simp [execOp, ho, resolve, invoke, builtin, hs, hx, hrun, Result.andThen]
    exact h v w (by rw [List.append_nil]; exact hown) ⟨rfl, rfl, rfl, Nat.le_refl _, fun _ _ _ => rfl⟩
  · exact key ad cap hx (fun j u hu => by simp [cellsOf] at hu)
  · exact key _ cap hx (BidCells.news hl)

/-- At the list of a plain region. -/
theorem wpList_append_any {ops : Array Oper} {rest : List Oper} {o : Oper} {a : Act} {Q : Exit → Act → World → Prop} {w : World} (hgd : o.guard = none) (s x : Operand)
    (ho : o.op = .call { callee := .builtin .append, args := #[s, x], argTypes := #[22, 22] })
    (base : Nat) (v : Value) (bs : List Bd) (hs : a.eval s = v) (hown : OwnBids base w v bs) (vr : Value) (R : List Bd) (hx : a.eval x = vr) (hr : BidsAt w vr R)
    (hlen : bs.length + R.length ≤ 1000) (hbase : base ≤ w.heap.size)
    (h : ∀ v' w', OwnBids base w' v' (bs ++ R) → w.grownBy w' v.ownBlock → wpList Try.prog ops Q rest (a.put o.dst v') w') : wpList Try.prog ops Q (o :: rest) a w :=
  wpList_plain hgd fun _ hK => wp_append_any s x ho base v bs hs hown vr R hx hr hlen hbase fun v' w' h1 h2 => hK _ _ (h v' w' h1 h2)

/-- At a step of a region that draws its order. -/
theorem step_append_bids {ops : Array Oper} {o : Oper} {a : Act} {K : Act → World → Prop} {Q : Exit → Act → World → Prop} {E : Prop} {w : World} (hgd : o.guard = none) (s x : Operand)
    (ho : o.op = .call { callee := .builtin .append, args := #[s, x], argTypes := #[22, 22] })
    (base : Nat) (v : Value) (bs : List Bd) (hs : a.eval s = v) (hown : OwnBids base w v bs) (vr : Value) (R : List Bd) (hx : a.eval x = vr) (hr : BidsAt w vr R)
    (hlen : bs.length + R.length ≤ 1000) (hbase : base ≤ w.heap.size)
    (h : ∀ v' w', OwnBids base w' v' (bs ++ R) → w.grownBy w' v.ownBlock → K (a.put o.dst v') w') :
    if Region.wanted o (yielded ops a.tmps) = true then Oper.wp Try.prog o a w K Q else E := by
  have hw : Region.wanted o (yielded ops a.tmps) = true := by simp [Region.wanted, hgd]
  rw [if_pos hw]
  exact wp_append_any s x ho base v bs hs hown vr R hx hr hlen hbase h

end Go.Proofs.Ytdgedckfaefohaa
