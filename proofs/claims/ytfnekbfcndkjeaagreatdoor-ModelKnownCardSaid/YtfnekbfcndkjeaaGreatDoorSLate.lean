/- A region in which cells are read ahead of a first store and written behind it: what S says of the world is owed only till that store has come. -/
import Derived.Test.YtfnekbfcndkjeaaGreatDoorSAside
import Derived.OrdersHeld
import Derived.StillTail
import Derived.Deep.RegionHeld
set_option linter.all false
namespace Go.Proofs.YtfnekbfcndkjeaaGreatDoor
open Go.RowKit
section
variable {P : Program} {ops : Array Oper} {Q : Exit → Act → World → Prop} {md : Region.Mode} {S : World → Prop} {t : Nat}
def Owed (S : World → Prop) (t : Nat) (listed : Array Bool) (w : World) : Prop := listed.getD t false = true ∨ S w
def wpLate (P : Program) (md : Region.Mode) (ops : Array Oper) (Q : Exit → Act → World → Prop) (S : World → Prop) (t : Nat) : Nat → Array Bool → Act → World → Prop
  | 0, listed, a, w => Region.ready md ops listed = [] ∧ Q .normal a w
  | n + 1, listed, a, w => (Region.ready md ops listed = [] → Q .normal a w) ∧
      ∀ j ∈ Region.ready md ops listed, wpOp P ops Q j (fun b u => Owed S t (listed.setIfInBounds j true) u ∧ wpLate P md ops Q S t n (listed.setIfInBounds j true) b u) a w
theorem wpAny_of_late : ∀ (n : Nat) (listed : Array Bool) (a : Act) (w : World), wpLate P md ops Q S t n listed a w → wpAny P md ops Q n listed a w
  | 0, _, _, _, h => h
  | n + 1, _, _, _, h => ⟨h.1, fun j hj => wpOp_mono (fun b u h2 => wpAny_of_late n _ b u h2.2) (h.2 j hj)⟩
theorem Owed.set {listed : Array Bool} {w : World} {i : Nat} (hit : i ≠ t) : Owed S t (listed.setIfInBounds i true) w ↔ Owed S t listed w := by
  unfold Owed; rw [getD_set_ne false hit]
theorem late_first {i : Nat} {oi : Oper} {v : Value} (hi : ops[i]? = some oi) (hsel : Region.noSelect ops = true) (hQ : ∀ c a w, Q (.panic c) (a.put oi.dst v) w → Q (.panic c) a w) (hit : i ≠ t)
    (R : World → Prop) (G : Array Bool → Prop) (hR : ∀ listed w, G listed → Owed S t listed w → R w)
    (hG : ∀ listed j, G listed → listed.getD i true = false → j ∈ Region.ready md ops listed → j ≠ i → G (listed.setIfInBounds j true)) (n : Nat) :
    ∀ (listed : Array Bool) (a : Act) (w : World), (∀ j oj, ops[j]? = some oj → j ≠ i → listed.getD j true = false → (∀ e ∈ oj.after, Region.binds md e = true → e.on ≠ i) → oi.apart ops oj = true) →
      G listed → i ∈ Region.ready md ops listed → YieldsIf P ops R oi v a → Owed S t listed w → wpLate P md ops Q S t n (listed.setIfInBounds i true) (a.put oi.dst v) w → wpLate P md ops Q S t (n + 1) listed a w := by
  have no := fun j o cs b (h : ops[j]? = some o) => Region.noSelect_spec hsel j o cs b h
  induction n with
  | zero =>
    intro listed a w _ g hr hy hS H
    refine ⟨fun h => absurd hr (by rw [h]; exact List.not_mem_nil), fun j hj => ?_⟩
    by_cases e : j = i
    · subst e; exact hy.wpOp hi (hR _ _ g hS) ⟨(Owed.set hit).2 hS, H⟩
    · have h2 := ready_mono hj e
      rw [H.1] at h2
      exact absurd h2 List.not_mem_nil
  | succ n ih =>
    intro listed a w hf g hr hy hS H
    refine ⟨fun h => absurd hr (by rw [h]; exact List.not_mem_nil), fun j hj => ?_⟩
    by_cases e : j = i
    · subst e; exact hy.wpOp hi (hR _ _ g hS) ⟨(Owed.set hit).2 hS, H⟩
    · obtain ⟨hun, oj, hoj, hall⟩ := mem_ready.1 hj
      have hui := (mem_ready.1 hr).1
      have hnot : ∀ x ∈ oj.after, Region.binds md x = true → x.on ≠ i := fun x hx hb hxi => by
        have h1 := hall x hx hb
        rw [hxi] at h1
        by_cases hl : i < listed.size
        · simp [hl] at hui h1; rw [hui] at h1; cases h1
        · simp [Array.getElem?_eq_none (Nat.le_of_not_lt hl)] at hui
      have h2 := wpOp_putIf hoj (hf j oj hoj e hun hnot) (fun cs b => no i oi cs b hi) (fun cs b => no j oj cs b hoj) hQ hy (H.2 j (ready_mono hj e))
      refine wpOp_mono (fun b u h3 => ?_) h2
      obtain ⟨hy3, ho3, hw3⟩ := h3
      have hc : (listed.setIfInBounds i true).setIfInBounds j true = (listed.setIfInBounds j true).setIfInBounds i true := (Array.setIfInBounds_comm _ _ e).symm
      rw [hc] at ho3 hw3
      have ho4 := (Owed.set hit).1 ho3
      refine ⟨ho4, ih (listed.setIfInBounds j true) b u (fun k ok hk hki hku hno => hf k ok hk hki ?_ hno) (hG listed j g hui hj e) (ready_mono hr (Ne.symm e)) hy3 ho4 hw3⟩
      by_cases ejk : j = k
      · subst ejk; exact hun
      · rwa [getD_set_ne true ejk] at hku
theorem late_free {i : Nat} {oi : Oper} {v : Value} {n : Nat} {listed : Array Bool} {a : Act} {w : World} (hi : ops[i]? = some oi) (hsel : Region.noSelect ops = true) (hf : Region.free md ops listed i = true) (hr : (Region.ready md ops listed).contains i = true) (hit : i ≠ t)
    (hQ : ∀ c a w, Q (.panic c) (a.put oi.dst v) w → Q (.panic c) a w) (hy : YieldsIf P ops (fun _ => True) oi v a) (hS : Owed S t listed w)
    (h : wpLate P md ops Q S t n (listed.setIfInBounds i true) (a.put oi.dst v) w) : wpLate P md ops Q S t (n + 1) listed a w :=
  late_first hi hsel hQ hit (fun _ => True) (fun _ => True) (fun _ _ _ _ => trivial) (fun _ _ _ _ _ _ => trivial) n listed a w (Region.free_spec hi hf) trivial (by simpa using hr) hy hS h
theorem late_load {i : Nat} {oi : Oper} {v : Value} {n : Nat} {listed : Array Bool} {a : Act} {w : World} (hi : ops[i]? = some oi) (hsel : Region.noSelect ops = true) (hf : Region.free md ops listed i = true) (hr : (Region.ready md ops listed).contains i = true) (hit : i ≠ t)
    (hw : Region.waitsFor md ops t i = true) (ht : listed.getD t false = false)
    (hQ : ∀ c a w, Q (.panic c) (a.put oi.dst v) w → Q (.panic c) a w) (hy : YieldsIf P ops S oi v a) (hS : S w)
    (h : wpLate P md ops Q S t n (listed.setIfInBounds i true) (a.put oi.dst v) w) : wpLate P md ops Q S t (n + 1) listed a w := by
  obtain ⟨ot, hot, e, he, hb, heq⟩ := Region.waitsFor_spec hw
  refine late_first hi hsel hQ hit S (fun l => l.getD t false = false) (fun l u g ho => ?_) (fun l j g hu hj hji => ?_) n listed a w (Region.free_spec hi hf) ht (by simpa using hr) hy (.inr hS) h
  · rcases ho with ho | ho
    · rw [g] at ho; cases ho
    · exact ho
  · have hjt : j ≠ t := fun hjt => by
      subst hjt
      obtain ⟨_, o2, ho2, hall⟩ := mem_ready.1 hj
      rw [hot] at ho2
      cases ho2
      have h1 := hall e he hb
      rw [heq] at h1
      by_cases hl : i < l.size
      · simp [hl] at hu h1; rw [hu] at h1; cases h1
      · simp [Array.getElem?_eq_none (Nat.le_of_not_lt hl)] at hu
    show (l.setIfInBounds j true).getD t false = false
    rw [getD_set_ne false hjt]; exact g
theorem late_one {j : Nat} {o : Oper} {n : Nat} {listed : Array Bool} {a : Act} {w : World} (hr : Region.ready md ops listed = [j]) (ho : ops[j]? = some o) (hflag : (listed.setIfInBounds j true).getD t false = true)
    (h : ∀ K : Act → World → Prop, Shut (∀ b u, wpLate P md ops Q S t n (listed.setIfInBounds j true) b u → K b u) → if Region.wanted o (yielded ops a.tmps) = true then Oper.wp P o a w K Q else K (a.put o.dst undef) w) : wpLate P md ops Q S t (n + 1) listed a w :=
  ⟨fun h0 => (by rw [hr] at h0; cases h0), fun k hk => by
    rw [hr] at hk
    obtain rfl := List.mem_singleton.1 hk
    exact wpOp_step ho fun K hK => h K fun b u hb => hK b u ⟨.inl hflag, hb⟩⟩
theorem late_done {listed : Array Bool} {a : Act} {w : World} (hr : Region.ready md ops listed = []) (h : Q .normal a w) : ∀ n, wpLate P md ops Q S t n listed a w
  | 0 => ⟨hr, h⟩
  | _ + 1 => ⟨fun _ => h, by rw [hr]; simp⟩
theorem late_begin {id : Nat} {a : Act} {w : World} (hm : P.follows .mixedOrders = true) (h : wpLate P .any ops Q S t ops.size (Array.replicate ops.size false) a w.drew) : (Code.region id ops true).wp P Q a w :=
  wp_region_any hm (wpAny_of_late _ _ _ _ h)
end
end Go.Proofs.YtfnekbfcndkjeaaGreatDoor
