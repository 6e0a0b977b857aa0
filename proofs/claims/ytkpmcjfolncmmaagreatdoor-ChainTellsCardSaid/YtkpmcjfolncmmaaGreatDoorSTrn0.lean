/- append of any row to a row of our own; records whose rows lie in elder memory or in new blocks of ints or lots. -/
import Derived.Test.YtkpmcjfolncmmaaGreatDoorSRec2
import Derived.Test.YtkpmcjfolncmmaaGreatDoorSOwnG
import Derived.Test.YtkpmcjfolncmmaaGreatDoorSPln2
set_option linter.all false
namespace Go.Proofs.YtkpmcjfolncmmaaGreatDoor
open Go.RowKit
theorem RecIn.setKind {w : World} {L : Nat} {r : RecV} (h : RecIn w L r) (v : Int) : RecIn (w.setCell ⟨L, 0, none⟩ (.int .i64 v)) L { r with kind := v } := whole_set h 0 (.int .i64 v)
theorem run_append_nilsrc (base : Nat) (t ty e : TypeId) (i : TypeInfo) (size c : Nat) (ht : Tryz.prog.underlying t = some (.slice e)) (hi : Tryz.prog.info? e = some i) {w : World}
    (v : Value) (n : Nat) (xs : List Value) (hown : w.ownsRow base e size v n xs) :
    (Builtin.append_ #[t, t] ty #[v, .slice none 0 c]).run Tryz.prog w = .ok v w := by
  rcases hown.2 with ⟨rfl, rfl⟩ | ⟨g, cap, cur, rfl, _, _, hnc, _⟩
  · simp [Builtin.append_, run_underlying ht, sizeOf, typeInfo, hi, Builtin.lenOf, Builtin.firstCells]
  · simp [Builtin.append_, run_underlying ht, sizeOf, typeInfo, hi, Builtin.lenOf, Builtin.firstCells, hnc, storeCells]
theorem wpList_append_src {ops : Array Oper} {rest : List Oper} {o : Oper} {a : Act} {Q : Exit → Act → World → Prop} {w : World} (hgd : o.guard = none) (s x : Operand) (S E : TypeId)
    (ho : o.op = .call { callee := .builtin .append, args := #[s, x], argTypes := #[S, S] })
    (z : Value) (size bytes : Nat) (hS : Tryz.prog.underlying S = some (.slice E)) (hE : (Tryz.prog.info? E).map (fun i => (i.zero, i.size, i.bytes)) = some (some z, size, bytes)) (hzs : z.cells.size = size) (hsz : 0 < size)
    (base : Nat) (v : Value) (n : Nat) (xs : List Value) (hs : a.eval s = v) (hown : w.ownsRow base E size v n xs) (p : Option Addr) (m c : Nat) (ys : List Value) (hx : a.eval x = .slice p m c) (hyl : ys.length = m * size) (hone : ∀ u ∈ ys, u.oneCell' = true)
    (hsrc : 0 < m → ∃ lb lo, p = some ⟨lb, lo, none⟩ ∧ ∀ j u, ys[j]? = some u → w.cell? ⟨lb, lo + j, none⟩ = some u)
    (hlen : n + m ≤ maxLen) (hby : (n + m) * bytes ≤ 140737488355328) (hbase : base ≤ w.heap.size)
    (h : ∀ v' w', w'.ownsRow base E size v' (n + m) (xs ++ ys) → w.grownBy w' v.ownBlock → wpList Tryz.prog ops Q rest (a.put o.dst v') w') : wpList Tryz.prog ops Q (o :: rest) a w := by
  obtain ⟨i0, hi, hz0, hz1, hz2⟩ := info_parts hE
  refine wpList_plain hgd fun K hK => ?_
  have key : ∀ ad, p = some ad → (∀ j u, ys[j]? = some u → w.cell? (ad.add j) = some u) → o.wp Tryz.prog a w K Q := fun ad hp hnews => by
    subst hp
    exact wp_append_own w s x S ho base E i0 z size bytes hS hi hz0 hz1 hz2 hzs hsz v n xs hs hown ad m c ys hx hyl hnews hone hlen hby hbase fun v' w' hown' hgrow _ => hK _ _ (h v' w' hown' hgrow)
  by_cases h0 : 0 < m
  · obtain ⟨lb, lo, hp, hc⟩ := hsrc h0
    refine key _ hp fun j u hu => ?_
    have hadd : (⟨lb, lo, none⟩ : Addr).add j = ⟨lb, lo + j, none⟩ := by
      unfold Addr.add
      split
      · rename_i hk; subst hk; rfl
      · rfl
    rw [hadd]
    exact hc j u hu
  · obtain rfl : m = 0 := by omega
    have hy : ys = [] := List.length_eq_zero_iff.1 (by rw [hyl, Nat.zero_mul])
    subst hy
    cases p with
    | some ad => exact key ad rfl fun j u hu => by simp at hu
    | none =>
      have hrun := run_append_nilsrc base S o.type E i0 size c hS hi v n xs hown
      unfold Oper.wp
      simp [execOp, ho, resolve, invoke, builtin, hs, hx, hrun, Result.andThen]
      exact hK _ _ (h v w (by rw [List.append_nil]; exact hown) ⟨rfl, rfl, rfl, Nat.le_refl _, fun _ _ _ => rfl⟩)
def Rw (O : Nat → Prop) (B : Nat) (w : World) (k : Nat) : Prop := O k ∨ RowBlock B w k
def RowIM (O : Nat → Prop) (B : Nat) (w : World) (v : Value) (xs : List Int) : Prop :=
  ∃ a cap, v = .slice a xs.length cap ∧ xs.length ≤ cap ∧ (0 < xs.length → ∃ lb lo, a = some ⟨lb, lo, none⟩ ∧ lb < w.heap.size ∧ Rw O B w lb ∧ ∀ j, j < xs.length → w.cell? ⟨lb, lo + j, none⟩ = some (.int .i64 (xs.getD j 0)))
def RowLM (O : Nat → Prop) (B : Nat) (w : World) (v : Value) (xs : List (Int × Int)) : Prop :=
  ∃ a cap, v = .slice a xs.length cap ∧ xs.length ≤ cap ∧ (0 < xs.length → ∃ lb lo, a = some ⟨lb, lo, none⟩ ∧ lb < w.heap.size ∧ Rw O B w lb ∧ ∀ j, j < xs.length → w.cell? ⟨lb, lo + j * 2, none⟩ = some (.int .i64 (xs.getD j (0, 0)).1) ∧ w.cell? ⟨lb, lo + j * 2 + 1, none⟩ = some (.int .i64 (xs.getD j (0, 0)).2))
theorem RowIM.row {O : Nat → Prop} {B : Nat} {w : World} {v : Value} {xs : List Int} (h : RowIM O B w v xs) : RowI w v xs := by
  obtain ⟨a, cap, e, hc, h⟩ := h
  exact ⟨a, cap, e, hc, fun h0 => by obtain ⟨lb, lo, ea, hl, _, hj⟩ := h h0; exact ⟨lb, lo, ea, hl, hj⟩⟩
theorem RowLM.row {O : Nat → Prop} {B : Nat} {w : World} {v : Value} {xs : List (Int × Int)} (h : RowLM O B w v xs) : RowL w v xs := by
  obtain ⟨a, cap, e, hc, h⟩ := h
  exact ⟨a, cap, e, hc, fun h0 => by obtain ⟨lb, lo, ea, hl, _, hj⟩ := h h0; exact ⟨lb, lo, ea, hl, hj⟩⟩
theorem RowBlock.keeps {B : Nat} {w w' : World} {k : Nat} {K : Nat → Prop} (h : RowBlock B w k) (hk : Keeps K w w') (hK : K k) : RowBlock B w' k := by
  obtain ⟨hb, cur, h | h⟩ := h
  · exact ⟨hb, cur, .inl (whole_keeps h hk hK)⟩
  · exact ⟨hb, cur, .inr (whole_keeps h hk hK)⟩
theorem Rw.keeps {O : Nat → Prop} {B : Nat} {w w' : World} {k : Nat} {K : Nat → Prop} (h : Rw O B w k) (hk : Keeps K w w') (hK : K k) : Rw O B w' k := h.imp_right fun h => h.keeps hk hK
theorem RowIM.keeps {O : Nat → Prop} {B : Nat} {K : Nat → Prop} {w w' : World} {v : Value} {xs : List Int} (h : RowIM O B w v xs) (hk : Keeps K w w') (hK : ∀ k, k < w.heap.size → Rw O B w k → K k) : RowIM O B w' v xs := by
  obtain ⟨a, cap, e, hc, h⟩ := h
  refine ⟨a, cap, e, hc, fun h0 => ?_⟩
  obtain ⟨lb, lo, ea, hl, hr, hj⟩ := h h0
  have hK' := hK lb hl hr
  exact ⟨lb, lo, ea, Nat.lt_of_lt_of_le hl hk.size, hr.keeps hk hK', fun j h1 => cell_keeps (hj j h1) hk hK'⟩
theorem RowLM.keeps {O : Nat → Prop} {B : Nat} {K : Nat → Prop} {w w' : World} {v : Value} {xs : List (Int × Int)} (h : RowLM O B w v xs) (hk : Keeps K w w') (hK : ∀ k, k < w.heap.size → Rw O B w k → K k) : RowLM O B w' v xs := by
  obtain ⟨a, cap, e, hc, h⟩ := h
  refine ⟨a, cap, e, hc, fun h0 => ?_⟩
  obtain ⟨lb, lo, ea, hl, hr, hj⟩ := h h0
  have hK' := hK lb hl hr
  exact ⟨lb, lo, ea, Nat.lt_of_lt_of_le hl hk.size, hr.keeps hk hK', fun j h1 => ⟨cell_keeps (hj j h1).1 hk hK', cell_keeps (hj j h1).2 hk hK'⟩⟩
theorem RowIM.from_ {O : Nat → Prop} {B : Nat} {w : World} {v : Value} {xs : List Int} (h : RowIF B w v xs) : RowIM O B w v xs := by
  obtain ⟨a, cap, e, hc, h⟩ := h
  refine ⟨a, cap, e, hc, fun h0 => ?_⟩
  obtain ⟨lb, lo, cur, ea, hB, hl, hj⟩ := h h0
  exact ⟨lb, lo, ea, whole_lt hl, .inr ⟨hB, cur, .inl hl⟩, hj⟩
theorem RowLM.from_ {O : Nat → Prop} {B : Nat} {w : World} {v : Value} {xs : List (Int × Int)} (h : RowLF B w v xs) : RowLM O B w v xs := by
  obtain ⟨a, cap, e, hc, h⟩ := h
  refine ⟨a, cap, e, hc, fun h0 => ?_⟩
  obtain ⟨lb, lo, cur, ea, hB, hl, hj⟩ := h h0
  exact ⟨lb, lo, ea, whole_lt hl, .inr ⟨hB, cur, .inr hl⟩, hj⟩
def RecM (O : Nat → Prop) (B : Nat) (w : World) (v : RecV) (d : RecD) : Prop :=
  ∃ b l o, v = d.toV b l o ∧ RowIM O B w b d.barred ∧ RowLM O B w l d.lots ∧ RowIM O B w o d.owners
theorem RecM.at_ {O : Nat → Prop} {B : Nat} {w : World} {v : RecV} {d : RecD} (h : RecM O B w v d) : RecAt w v d := by
  obtain ⟨b, l, o, e, h1, h2, h3⟩ := h
  exact ⟨b, l, o, e, h1.row, h2.row, h3.row⟩
theorem RecM.keeps {O : Nat → Prop} {B : Nat} {K : Nat → Prop} {w w' : World} {v : RecV} {d : RecD} (h : RecM O B w v d) (hk : Keeps K w w') (hK : ∀ k, k < w.heap.size → Rw O B w k → K k) : RecM O B w' v d := by
  obtain ⟨b, l, o, e, h1, h2, h3⟩ := h
  exact ⟨b, l, o, e, h1.keeps hk hK, h2.keeps hk hK, h3.keeps hk hK⟩
theorem RecM.on {O : Nat → Prop} {B : Nat} {w w' : World} {v : RecV} {d : RecD} (h : RecM O B w v d) (hb : Below w.heap.size w w') : RecM O B w' v d := h.keeps (keeps_of_new hb (fun _ => True)) (fun _ _ _ => trivial)
theorem RecM.from_ {O : Nat → Prop} {B : Nat} {w : World} {v : RecV} {d : RecD} (h : RecFrom B w v d) : RecM O B w v d := by
  obtain ⟨b, l, o, e, h1, h2, h3⟩ := h
  exact ⟨b, l, o, e, .from_ h1, .from_ h2, .from_ h3⟩
theorem RecM.one {O : Nat → Prop} {B : Nat} {w : World} {v : RecV} {d : RecD} (h : RecM O B w v d) : (recCells v).all (·.oneCell') = true := by
  obtain ⟨b, l, o, rfl, ⟨a1, c1, rfl, _⟩, ⟨a2, c2, rfl, _⟩, ⟨a3, c3, rfl, _⟩⟩ := h
  exact recCells_one _ rfl rfl rfl
end Go.Proofs.YtkpmcjfolncmmaaGreatDoor
