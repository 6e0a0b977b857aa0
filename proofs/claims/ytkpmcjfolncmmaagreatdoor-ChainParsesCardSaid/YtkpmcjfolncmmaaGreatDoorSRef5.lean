/- What the document's reader reads of each kind; small laws. Printed by wip/gen/refb.py. -/
import Derived.Test.YtkpmcjfolncmmaaGreatDoorSRef3
import Derived.Test.YtkpmcjfolncmmaaGreatDoorSByt1
import Derived.Test.YtkpmcjfolncmmaaGreatDoorSPln2
import Derived.Test.YtkpmcjfolncmmaaGreatDoorSRec2
import Derived.Deep.WholeRow
set_option linter.all false
namespace Go.Proofs.YtkpmcjfolncmmaaGreatDoor
open Go.RowKit
theorem storeAt_fresh {P : Program} (w : World) (t : TypeId) (c c' : Array Value) (hi : (P.info? t).map (·.size) = some c'.size) (ho : c.size = c'.size) (h1 : c'.all (·.oneCell') = true) :
    (Instr.storeAt t (.pointer (some ⟨w.heap.size, 0, none⟩)) (.agg c')).run P (w.alloc (.cells c t)) = .ok () (w.alloc (.cells c' t)) := by
  simp only [Instr.storeAt, Instr.sureAddr, Sem.run_bind, Sem.run_pure, Result.andThen]
  exact run_storeVar_new w t c c' hi ho h1
theorem build_k (k : Int) (w : World) : (Instr.build 38 #[(0, .int .i64 k)]).run Tryz.prog w = .ok (.agg (recCells { kind := k })) w := by kernel_rfl
theorem RfAt.other {w : World} {b L : Nat} {t : ByteArray} {st : Option Nat} (h : RfAt w b t st) (hne : L ≠ b) (j : Nat) (v : Value) : RfAt (w.setCell ⟨L, j, none⟩ v) b t st :=
  h.keeps ((Keeps.refl (· ≠ L) _).setCell (p := ⟨L, j, none⟩) (.inr (fun h => h rfl)) _) (Ne.symm hne)
theorem RfAt.row {w : World} {b L : Nat} {t : ByteArray} {st : Option Nat} (h : RfAt w b t st) (hne : L ≠ b) (cs : Array Value) : RfAt (w.setRow L cs) b t st :=
  h.keeps (keeps_setRow (K := (· ≠ L)) w L cs (fun h => h rfl)) (Ne.symm hne)
theorem RfAt.on {w w' : World} {b : Nat} {t : ByteArray} {st : Option Nat} (h : RfAt w b t st) (hb : Below w.heap.size w w') : RfAt w' b t st :=
  h.keeps (keeps_of_new hb (fun _ => True)) trivial
theorem row_no_rec {B k : Nat} {w : World} {cur : Array Value} (h : RowBlock B w k) (hr : w.heap[k]? = some (.cells cur 38 (0, 0))) : False := by
  obtain ⟨_, c, h | h⟩ := h <;> (rw [hr] at h; simp at h)
def dgS (t : ByteArray) (s : Option Nat) : Nat → Option Nat
  | 0 => s
  | k + 1 => nx t (dgS t s k) 1
def dgL (t : ByteArray) (s : Option Nat) (k : Nat) : List Int := (List.range k).map fun j => vl t (dgS t s j) 1
theorem dgL_get (t : ByteArray) (s : Option Nat) (n j : Nat) : (dgL t s n).getD j 0 = if j < n then vl t (dgS t s j) 1 else 0 := by
  rw [dgL, List.getD_eq_getElem?_getD, List.getElem?_map]
  by_cases h : j < n
  · rw [if_pos h, List.getElem?_range h]; rfl
  · rw [if_neg h, List.getElem?_eq_none (by simp; omega)]; rfl
theorem dgL_zero (t : ByteArray) (s : Option Nat) : (fun j => (dgL t s 0).getD j 0) = fun _ => (0 : Int) := by
  funext j; rw [dgL_get]; rfl
theorem dgL_upd (t : ByteArray) (s : Option Nat) (k : Nat) : upD (fun j => (dgL t s k).getD j 0) k (vl t (dgS t s k) 1) = fun j => (dgL t s (k + 1)).getD j 0 := by
  funext j
  rw [dgL_get, upD]
  by_cases e : j = k
  · subst e; rw [if_pos rfl, if_pos (by omega)]
  · rw [if_neg e, dgL_get]
    by_cases h : j < k
    · rw [if_pos h, if_pos (by omega)]
    · rw [if_neg h, if_neg (by omega)]
def endW (t : ByteArray) (s0 : Option Nat) : RecD × Option Nat := ({ kind := 6, tick := tickV (vl t s0 8) }, nx t s0 8)
def revealW (t : ByteArray) (s0 : Option Nat) : RecD × Option Nat :=
  ({ kind := 4, round := vl t s0 1, carrier := vl t (nx t s0 1) 1, bid := vl t (nx t (nx t s0 1) 1) 8, nonce := vl t (nx t (nx t (nx t s0 1) 1) 8) 8, tick := tickV (vl t (nx t (nx t (nx t (nx t s0 1) 1) 8) 8) 8) }, nx t (nx t (nx t (nx t (nx t s0 1) 1) 8) 8) 8)
def closeW (t : ByteArray) (s0 : Option Nat) : RecD × Option Nat :=
  ({ kind := 5, round := vl t s0 1, state := vl t (nx t s0 1) 1, winner := vl t (nx t (nx t s0 1) 1) 1 - 1, price := vl t (nx t (nx t (nx t s0 1) 1) 1) 8, tick := tickV (vl t (nx t (nx t (nx t (nx t s0 1) 1) 1) 8) 8) }, nx t (nx t (nx t (nx t (nx t s0 1) 1) 1) 8) 8)
def commitW (t : ByteArray) (s0 : Option Nat) : RecD × Option Nat :=
  ({ kind := 3, round := vl t s0 1, carrier := vl t (nx t s0 1) 1, dig := dgL t (nx t (nx t s0 1) 1) 32, tick := tickV (vl t (dgS t (nx t (nx t s0 1) 1) 32) 8) }, nx t (dgS t (nx t (nx t s0 1) 1) 32) 8)
def openW (t : ByteArray) (s0 : Option Nat) : RecD × Option Nat :=
  ({ kind := 2, round := vl t s0 1, lot := vl t (nx t s0 1) 1, tick := tickV (vl t (nx t (nx t s0 1) 1) 8), barred := (intsN t (nx t (nx t (nx t s0 1) 1) 8)).1 }, (intsN t (nx t (nx t (nx t s0 1) 1) 8)).2)
def sceneW4 (t : ByteArray) (s0 : Option Nat) : Option Nat := nx t (nx t (nx t (nx t s0 1) 1) 1) 1
def sceneW (t : ByteArray) (s0 : Option Nat) : RecD × Option Nat :=
  ({ kind := 1, carriers := vl t s0 1, commit := vl t (nx t s0 1) 1, reveal := vl t (nx t (nx t s0 1) 1) 1, scheme := vl t (nx t (nx t (nx t s0 1) 1) 1) 1, lots := (lotsN t (sceneW4 t s0)).1, owners := (intsN t (lotsN t (sceneW4 t s0)).2).1 }, (intsN t (lotsN t (sceneW4 t s0)).2).2)
def BodyRf (b : Nat) (t : ByteArray) (D : RecD × Option Nat) (w : World) (e : Ending) (w' : World) : Prop :=
  ∃ rv, e = .returned (.agg (recCells rv)) ∧ RecFrom w.heap.size w' rv D.1 ∧ Keeps (· ≠ b) w w' ∧ RfAt w' b t D.2
end Go.Proofs.YtkpmcjfolncmmaaGreatDoor
namespace Go.Proofs.YtkpmcjfolncmmaaGreatDoor
open Go.RowKit
theorem nx_pos {t : ByteArray} {p n : Nat} (h : p + n ≤ t.size) : nx t (some p) n = some (p + n) := if_pos h
theorem vl_pos {t : ByteArray} {p n : Nat} (h : p + n ≤ t.size) : vl t (some p) n = getV t p n := if_pos h
theorem nx_back {t : ByteArray} {st : Option Nat} {n q : Nat} (h : nx t st n = some q) : ∃ p, st = some p ∧ q = p + n ∧ q ≤ t.size := by
  cases st with
  | none => cases h
  | some p =>
    rw [nx_some] at h
    by_cases hp : p + n ≤ t.size
    · rw [if_pos hp] at h
      injection h with h
      exact ⟨p, rfl, h.symm, by omega⟩
    · rw [if_neg hp] at h
      cases h
theorem intsR_pos (t : ByteArray) : ∀ (n p : Nat), p + n ≤ t.size → intsR t n (some p) = ((List.range n).map fun (i : Nat) => getV t ((p : Int) + i) 1, some (p + n))
  | 0, p, _ => rfl
  | n + 1, p, h => by
    rw [intsR_some, nx_pos (by omega), vl_pos (by omega), intsR_pos t n (p + 1) (by omega), List.range_succ_eq_map, List.map_cons, List.map_map]
    refine Prod.ext ?_ ?_
    · show _ :: _ = _ :: _
      refine congr (congrArg List.cons ?_) ?_
      · show getV t (p : Int) ((1 : Nat) : Int) = getV t ((p : Int) + ((0 : Nat) : Int)) 1
        rw [show (p : Int) + ((0 : Nat) : Int) = p by omega]
        rfl
      · apply List.map_congr_left
        intro i _
        show getV t (((p + 1 : Nat) : Int) + i) 1 = getV t ((p : Int) + ((i + 1 : Nat) : Int)) 1
        congr 1; omega
    · show some (p + 1 + n) = some (p + (n + 1))
      congr 1; omega
theorem intsR_back {t : ByteArray} : ∀ (n : Nat) {st : Option Nat} {q : Nat}, (intsR t n st).2 = some q → ∃ p, st = some p ∧ q = p + n ∧ (n = 0 ∨ q ≤ t.size)
  | 0, st, q, h => by
    rw [intsR_zero] at h
    exact ⟨q, h, rfl, .inl rfl⟩
  | n + 1, none, q, h => by rw [intsR_none] at h; cases h
  | n + 1, some p, q, h => by
    rw [intsR_some] at h
    obtain ⟨p1, e1, rfl, h2⟩ := intsR_back n h
    obtain ⟨p0, e0, rfl, h3⟩ := nx_back e1
    injection e0 with e0
    subst e0
    refine ⟨p, rfl, by omega, .inr ?_⟩
    rcases h2 with rfl | h2
    · omega
    · exact h2
theorem cnt_val (t : ByteArray) (p : Nat) (h : p + 1 ≤ t.size) : (cntR t p : Int) = getV t p 1 := by
  have := getV_bound t p 1 (by omega)
  unfold cntR
  omega
theorem intsN_pos {t : ByteArray} {p : Nat} (h : intsOk t p) : intsN t (some p) = (intsTo t p (cntR t p), some (p + 1 + cntR t p)) := by
  obtain ⟨h1, h2⟩ := h
  rw [intsN, vl_pos (by omega), nx_pos (by omega)]
  show intsR t (cntR t p) (some (p + 1)) = _
  rw [intsR_pos t _ _ (by omega)]
  refine Prod.ext ?_ rfl
  apply List.map_congr_left
  intro i _
  show getV t (((p + 1 : Nat) : Int) + i) 1 = getV t ((p : Int) + 1 + i) 1
  congr 1
theorem intsN_back {t : ByteArray} {st : Option Nat} {q : Nat} (h : (intsN t st).2 = some q) : ∃ p, st = some p ∧ intsOk t p := by
  cases st with
  | none =>
    rw [intsN, vl_none, nx_none] at h
    cases h
  | some p =>
    refine ⟨p, rfl, ?_⟩
    rw [intsN] at h
    obtain ⟨p1, e1, rfl, h2⟩ := intsR_back _ h
    obtain ⟨p0, e0, rfl, h3⟩ := nx_back e1
    injection e0 with e0
    subst e0
    have hv : (vl t (some p) 1).toNat = cntR t p := by rw [vl_pos h3]; rfl
    rw [hv] at h2
    have := cnt_val t p h3
    refine ⟨by omega, ?_⟩
    rcases h2 with h2 | h2
    · rw [h2]; omega
    · omega
theorem lotsR_pos (t : ByteArray) : ∀ (n p : Nat), p + 5 * n ≤ t.size → lotsR t n (some p) = ((List.range n).map fun (i : Nat) => (getV t ((p : Int) + 5 * i) 1, getV t ((p : Int) + 5 * i + 1) 4), some (p + 5 * n))
  | 0, p, _ => rfl
  | n + 1, p, h => by
    rw [lotsR_some, nx_pos (show p + 1 ≤ t.size by omega), vl_pos (show p + 1 ≤ t.size by omega), vl_pos (by omega), nx_pos (by omega), lotsR_pos t n (p + 1 + 4) (by omega), List.range_succ_eq_map, List.map_cons, List.map_map]
    refine Prod.ext ?_ ?_
    · show _ :: _ = _ :: _
      refine congr (congrArg List.cons ?_) ?_
      · refine Prod.ext ?_ ?_
        · show getV t (p : Int) ((1 : Nat) : Int) = getV t ((p : Int) + 5 * ((0 : Nat) : Int)) 1
          rw [show (p : Int) + 5 * ((0 : Nat) : Int) = p by omega]
          rfl
        · show getV t ((p + 1 : Nat) : Int) ((4 : Nat) : Int) = getV t ((p : Int) + 5 * ((0 : Nat) : Int) + 1) 4
          rw [show (p : Int) + 5 * ((0 : Nat) : Int) + 1 = ((p + 1 : Nat) : Int) by omega]
          rfl
      · apply List.map_congr_left
        intro i _
        refine Prod.ext ?_ ?_
        · show getV t (((p + 1 + 4 : Nat) : Int) + 5 * i) 1 = getV t ((p : Int) + 5 * ((i + 1 : Nat) : Int)) 1
          congr 1; omega
        · show getV t (((p + 1 + 4 : Nat) : Int) + 5 * i + 1) 4 = getV t ((p : Int) + 5 * ((i + 1 : Nat) : Int) + 1) 4
          congr 1; omega
    · show some (p + 1 + 4 + 5 * n) = some (p + 5 * (n + 1))
      congr 1; omega
theorem lotsR_back {t : ByteArray} : ∀ (n : Nat) {st : Option Nat} {q : Nat}, (lotsR t n st).2 = some q → ∃ p, st = some p ∧ q = p + 5 * n ∧ (n = 0 ∨ q ≤ t.size)
  | 0, st, q, h => by
    rw [lotsR_zero] at h
    exact ⟨q, h, rfl, .inl rfl⟩
  | n + 1, none, q, h => by rw [lotsR_none] at h; cases h
  | n + 1, some p, q, h => by
    rw [lotsR_some] at h
    obtain ⟨p1, e1, rfl, h2⟩ := lotsR_back n h
    obtain ⟨p2, e2, rfl, h4⟩ := nx_back e1
    obtain ⟨p0, e0, rfl, h3⟩ := nx_back e2
    injection e0 with e0
    subst e0
    refine ⟨p, rfl, by omega, .inr ?_⟩
    rcases h2 with rfl | h2
    · omega
    · exact h2
theorem lotsN_pos {t : ByteArray} {p : Nat} (h : lotsOk t p) : lotsN t (some p) = (lotsTo t p (cntR t p), some (p + 1 + 5 * cntR t p)) := by
  obtain ⟨h1, h2⟩ := h
  rw [lotsN, vl_pos (by omega), nx_pos (by omega)]
  show lotsR t (cntR t p) (some (p + 1)) = _
  rw [lotsR_pos t _ _ (by omega)]
  refine Prod.ext ?_ rfl
  apply List.map_congr_left
  intro i _
  rfl
theorem lotsN_back {t : ByteArray} {st : Option Nat} {q : Nat} (h : (lotsN t st).2 = some q) : ∃ p, st = some p ∧ lotsOk t p ∧ q = p + 1 + 5 * cntR t p := by
  cases st with
  | none =>
    rw [lotsN, vl_none, nx_none] at h
    cases h
  | some p =>
    refine ⟨p, rfl, ?_⟩
    rw [lotsN] at h
    obtain ⟨p1, e1, rfl, h2⟩ := lotsR_back _ h
    obtain ⟨p0, e0, rfl, h3⟩ := nx_back e1
    injection e0 with e0
    subst e0
    have hv : (vl t (some p) 1).toNat = cntR t p := by rw [vl_pos h3]; rfl
    rw [hv] at h2 ⊢
    have := cnt_val t p h3
    refine ⟨⟨by omega, ?_⟩, rfl⟩
    rcases h2 with h2 | h2
    · rw [h2]; omega
    · omega
theorem dgS_pos (t : ByteArray) (p : Nat) : ∀ k, p + k ≤ t.size → dgS t (some p) k = some (p + k)
  | 0, _ => rfl
  | k + 1, h => by rw [dgS, dgS_pos t p k (by omega), nx_pos (by omega)]; rfl
theorem dgS_back {t : ByteArray} {st : Option Nat} : ∀ {k q : Nat}, dgS t st k = some q → ∃ p, st = some p ∧ q = p + k ∧ (k = 0 ∨ q ≤ t.size)
  | 0, q, h => ⟨q, h, rfl, .inl rfl⟩
  | k + 1, q, h => by
    rw [dgS] at h
    obtain ⟨p1, e1, rfl, h1⟩ := nx_back h
    obtain ⟨p, e, rfl, _⟩ := dgS_back e1
    exact ⟨p, e, by omega, .inr h1⟩
theorem dgL_pos (t : ByteArray) (h : 35 ≤ t.size) : dgL t (some 3) 32 = digTo t 32 := by
  apply List.map_congr_left
  intro j hj
  have hj := List.mem_range.1 hj
  show vl t (dgS t (some 3) j) 1 = getV t (3 + j) 1
  rw [dgS_pos t 3 j (by omega), vl_pos (by omega)]
  congr 1
def Twin (d e : RecD) : Prop := d = e ∨ (d.kind = e.kind ∧ 2 ≤ d.kind ∧ d.tick < 0 ∧ e.tick < 0)
theorem tick_law (v : Int) (h : 0 ≤ v ∧ v ≤ 18446744073709551615) : tickV v = wrap64 v ∨ (tickV v < 0 ∧ wrap64 v < 0) := by
  unfold tickV
  by_cases hv : 9223372036854775807 < v
  · right
    rw [if_pos hv]
    refine ⟨by omega, ?_⟩
    unfold wrap64
    omega
  · left
    rw [if_neg hv]
    unfold wrap64
    omega
theorem getV8 (t : ByteArray) (p : Int) : 0 ≤ getV t p 8 ∧ getV t p 8 ≤ 18446744073709551615 := by
  have := getV_bound t p 8 (by omega)
  have h2 := this.2
  simp at h2
  exact ⟨this.1, by omega⟩
def bodyW (t : ByteArray) (k : Int) (s : Option Nat) : RecD × Option Nat :=
  if k = 1 then sceneW t s else if k = 2 then openW t s else if k = 3 then commitW t s else if k = 4 then revealW t s else if k = 5 then closeW t s else endW t s
def BodyLaw (t : ByteArray) (k : Int) (D : RecD × Option Nat) : Prop :=
  (kindOk k t → ∃ q : Nat, D.2 = some q ∧ (q : Int) = kindQ k t ∧ Twin D.1 (kindR k t)) ∧ (¬ kindOk k t → D.2 = none)
theorem none_of {s : Option Nat} {P : Prop} (h : ∀ q, s = some q → P) (hn : ¬ P) : s = none := by
  cases s with
  | none => rfl
  | some q => exact absurd (h q rfl) hn
theorem law_end (t : ByteArray) : BodyLaw t 6 (endW t (some 1)) := by
  refine ⟨fun h => ?_, fun h => none_of (P := kindOk 6 t) (fun q hq => ?_) h⟩
  · have h9 : 9 ≤ t.size := h
    refine ⟨9, nx_pos (by omega), rfl, ?_⟩
    rcases tick_law _ (getV8 t 1) with e | ⟨e1, e2⟩
    · left
      show ({ kind := 6, tick := tickV (vl t (some 1) 8) } : RecD) = { kind := 6, tick := wrap64 (getV t 1 8) }
      rw [vl_pos (by omega), ← e]
      rfl
    · right
      refine ⟨rfl, (by decide : (2 : Int) ≤ 6), ?_, e2⟩
      show tickV (vl t (some 1) 8) < 0
      rw [vl_pos (by omega)]
      exact e1
  · obtain ⟨p, e, rfl, h⟩ := nx_back (show nx t (some 1) 8 = some q from hq)
    injection e with e
    subst e
    exact h
theorem law_reveal (t : ByteArray) : BodyLaw t 4 (revealW t (some 1)) := by
  refine ⟨fun h => ?_, fun h => none_of (P := kindOk 4 t) (fun q hq => ?_) h⟩
  · have h9 : 27 ≤ t.size := h
    have n1 : nx t (some 1) 1 = some 2 := nx_pos (by omega)
    have n2 : nx t (some 2) 1 = some 3 := nx_pos (by omega)
    have n3 : nx t (some 3) 8 = some 11 := nx_pos (by omega)
    have n4 : nx t (some 11) 8 = some 19 := nx_pos (by omega)
    have v1 : vl t (some 1) 1 = getV t 1 1 := vl_pos (by omega)
    have v2 : vl t (some 2) 1 = getV t 2 1 := vl_pos (by omega)
    have v3 : vl t (some 3) 8 = getV t 3 8 := vl_pos (by omega)
    have v4 : vl t (some 11) 8 = getV t 11 8 := vl_pos (by omega)
    have v5 : vl t (some 19) 8 = getV t 19 8 := vl_pos (by omega)
    simp only [revealW, n1, n2, n3, n4, v1, v2, v3, v4, v5]
    refine ⟨27, nx_pos (by omega), rfl, ?_⟩
    rcases tick_law _ (getV8 t 19) with e | ⟨e1, e2⟩
    · left
      simp only [e]
      rfl
    · exact .inr ⟨rfl, (by decide : (2 : Int) ≤ 4), e1, e2⟩
  · obtain ⟨p4, e4, rfl, h⟩ := nx_back hq
    obtain ⟨p3, e3, rfl, _⟩ := nx_back e4
    obtain ⟨p2, e2, rfl, _⟩ := nx_back e3
    obtain ⟨p1, e1, rfl, _⟩ := nx_back e2
    obtain ⟨p0, e0, rfl, _⟩ := nx_back e1
    injection e0 with e0
    subst e0
    exact h
theorem law_close (t : ByteArray) : BodyLaw t 5 (closeW t (some 1)) := by
  refine ⟨fun h => ?_, fun h => none_of (P := kindOk 5 t) (fun q hq => ?_) h⟩
  · have h9 : 20 ≤ t.size := h
    have n1 : nx t (some 1) 1 = some 2 := nx_pos (by omega)
    have n2 : nx t (some 2) 1 = some 3 := nx_pos (by omega)
    have n3 : nx t (some 3) 1 = some 4 := nx_pos (by omega)
    have n4 : nx t (some 4) 8 = some 12 := nx_pos (by omega)
    have v1 : vl t (some 1) 1 = getV t 1 1 := vl_pos (by omega)
    have v2 : vl t (some 2) 1 = getV t 2 1 := vl_pos (by omega)
    have v3 : vl t (some 3) 1 = getV t 3 1 := vl_pos (by omega)
    have v4 : vl t (some 4) 8 = getV t 4 8 := vl_pos (by omega)
    have v5 : vl t (some 12) 8 = getV t 12 8 := vl_pos (by omega)
    simp only [closeW, n1, n2, n3, n4, v1, v2, v3, v4, v5]
    refine ⟨20, nx_pos (by omega), rfl, ?_⟩
    rcases tick_law _ (getV8 t 12) with e | ⟨e1, e2⟩
    · left
      simp only [e]
      rfl
    · exact .inr ⟨rfl, (by decide : (2 : Int) ≤ 5), e1, e2⟩
  · obtain ⟨p4, e4, rfl, h⟩ := nx_back hq
    obtain ⟨p3, e3, rfl, _⟩ := nx_back e4
    obtain ⟨p2, e2, rfl, _⟩ := nx_back e3
    obtain ⟨p1, e1, rfl, _⟩ := nx_back e2
    obtain ⟨p0, e0, rfl, _⟩ := nx_back e1
    injection e0 with e0
    subst e0
    exact h
theorem law_commit (t : ByteArray) : BodyLaw t 3 (commitW t (some 1)) := by
  refine ⟨fun h => ?_, fun h => none_of (P := kindOk 3 t) (fun q hq => ?_) h⟩
  · have h9 : 43 ≤ t.size := h
    have n1 : nx t (some 1) 1 = some 2 := nx_pos (by omega)
    have n2 : nx t (some 2) 1 = some 3 := nx_pos (by omega)
    have n3 : dgS t (some 3) 32 = some 35 := dgS_pos t 3 32 (by omega)
    have v1 : vl t (some 1) 1 = getV t 1 1 := vl_pos (by omega)
    have v2 : vl t (some 2) 1 = getV t 2 1 := vl_pos (by omega)
    have v5 : vl t (some 35) 8 = getV t 35 8 := vl_pos (by omega)
    simp only [commitW, n1, n2, n3, v1, v2, v5, dgL_pos t (by omega)]
    refine ⟨43, nx_pos (by omega), rfl, ?_⟩
    rcases tick_law _ (getV8 t 35) with e | ⟨e1, e2⟩
    · left
      simp only [e]
      rfl
    · exact .inr ⟨rfl, (by decide : (2 : Int) ≤ 3), e1, e2⟩
  · obtain ⟨p4, e4, rfl, h⟩ := nx_back hq
    obtain ⟨p2, e2, rfl, _⟩ := dgS_back e4
    obtain ⟨p1, e1, rfl, _⟩ := nx_back e2
    obtain ⟨p0, e0, rfl, _⟩ := nx_back e1
    injection e0 with e0
    subst e0
    exact h
theorem law_open (t : ByteArray) : BodyLaw t 2 (openW t (some 1)) := by
  refine ⟨fun h => ?_, fun h => none_of (P := kindOk 2 t) (fun q hq => ?_) h⟩
  · obtain ⟨h9, hi⟩ : 11 ≤ t.size ∧ intsOk t 11 := h
    have n1 : nx t (some 1) 1 = some 2 := nx_pos (by omega)
    have n2 : nx t (some 2) 1 = some 3 := nx_pos (by omega)
    have n3 : nx t (some 3) 8 = some 11 := nx_pos (by omega)
    have v1 : vl t (some 1) 1 = getV t 1 1 := vl_pos (by omega)
    have v2 : vl t (some 2) 1 = getV t 2 1 := vl_pos (by omega)
    have v5 : vl t (some 3) 8 = getV t 3 8 := vl_pos (by omega)
    have hI : intsN t (some 11) = (intsTo t 11 (cntR t 11), some (11 + 1 + cntR t 11)) := intsN_pos hi
    simp only [openW, n1, n2, n3, v1, v2, v5, hI]
    refine ⟨_, rfl, ?_, ?_⟩
    · show ((11 + 1 + cntR t 11 : Nat) : Int) = 11 + 1 + (cntR t 11 : Int)
      omega
    rcases tick_law _ (getV8 t 3) with e | ⟨e1, e2⟩
    · left
      simp only [e]
      rfl
    · exact .inr ⟨rfl, (by decide : (2 : Int) ≤ 2), e1, e2⟩
  · obtain ⟨p3, e3, hi⟩ := intsN_back hq
    obtain ⟨p2, e2, rfl, h⟩ := nx_back e3
    obtain ⟨p1, e1, rfl, _⟩ := nx_back e2
    obtain ⟨p0, e0, rfl, _⟩ := nx_back e1
    injection e0 with e0
    subst e0
    exact ⟨h, hi⟩
theorem law_scene (t : ByteArray) : BodyLaw t 1 (sceneW t (some 1)) := by
  refine ⟨fun h => ?_, fun h => none_of (P := kindOk 1 t) (fun q hq => ?_) h⟩
  · obtain ⟨h9, hl, hi⟩ : 5 ≤ t.size ∧ lotsOk t 5 ∧ intsOk t (sceneP t) := h
    have n1 : nx t (some 1) 1 = some 2 := nx_pos (by omega)
    have n2 : nx t (some 2) 1 = some 3 := nx_pos (by omega)
    have n3 : nx t (some 3) 1 = some 4 := nx_pos (by omega)
    have n4 : nx t (some 4) 1 = some 5 := nx_pos (by omega)
    have v1 : vl t (some 1) 1 = getV t 1 1 := vl_pos (by omega)
    have v2 : vl t (some 2) 1 = getV t 2 1 := vl_pos (by omega)
    have v3 : vl t (some 3) 1 = getV t 3 1 := vl_pos (by omega)
    have v4 : vl t (some 4) 1 = getV t 4 1 := vl_pos (by omega)
    have hL : lotsN t (some 5) = (lotsTo t 5 (cntR t 5), some (5 + 1 + 5 * cntR t 5)) := lotsN_pos hl
    have hp : sceneP t = ((5 + 1 + 5 * cntR t 5 : Nat) : Int) := by unfold sceneP; omega
    rw [hp] at hi
    have hI := intsN_pos hi
    simp only [sceneW, sceneW4, n1, n2, n3, n4, v1, v2, v3, v4, hL, hI]
    refine ⟨_, rfl, ?_, .inl ?_⟩
    · show ((5 + 1 + 5 * cntR t 5 + 1 + cntR t ((5 + 1 + 5 * cntR t 5 : Nat) : Int) : Nat) : Int) = sceneP t + 1 + (cntR t (sceneP t) : Int)
      rw [hp]
      omega
    · show _ = sceneR t
      rw [sceneR, hp]
  · obtain ⟨p3, e3, hi⟩ := intsN_back hq
    obtain ⟨p2, e2, hl, rfl⟩ := lotsN_back e3
    obtain ⟨p1, e1, rfl, h⟩ := nx_back e2
    obtain ⟨q3, f3, rfl, _⟩ := nx_back e1
    obtain ⟨q2, f2, rfl, _⟩ := nx_back f3
    obtain ⟨q1, f1, rfl, _⟩ := nx_back f2
    injection f1 with f1
    subst f1
    refine ⟨h, hl, ?_⟩
    have hp : sceneP t = ((5 + 1 + 5 * cntR t 5 : Nat) : Int) := by unfold sceneP; omega
    rw [hp]
    exact hi
theorem kinds6 {k : Int} (hk : 1 ≤ k ∧ k ≤ 6) : k = 1 ∨ k = 2 ∨ k = 3 ∨ k = 4 ∨ k = 5 ∨ k = 6 := by omega
theorem body_law (t : ByteArray) (k : Int) (hk : 1 ≤ k ∧ k ≤ 6) : BodyLaw t k (bodyW t k (some 1)) := by
  rcases kinds6 hk with rfl | rfl | rfl | rfl | rfl | rfl
  · exact law_scene t
  · exact law_open t
  · exact law_commit t
  · exact law_reveal t
  · exact law_close t
  · exact law_end t
end Go.Proofs.YtkpmcjfolncmmaaGreatDoor
namespace Go.Proofs.YtkpmcjfolncmmaaGreatDoor
open Go.RowKit
set_option maxHeartbeats 4000000 in
set_option maxRecDepth 100000 in
theorem body_scene (b : Nat) (t : ByteArray) (hts : t.size ≤ 9223372036854775807) (S0 : Option Nat) (w : World) (h : RfAt w b t S0) :
    Calls Tryz.prog 35 #[.pointer (some ⟨b, 0, none⟩), .int .i64 1] w (BodyRf b t (sceneW t S0) w) := by
  have H := aside h
  have hbl := h.lt
  have HTS := aside hts
  obtain ⟨D, hD⟩ : ∃ D, D = sceneW t S0 := ⟨_, rfl⟩
  rw [← hD]
  have HD := aside hD
  clear h hts hD
  go_enter Tryz.func35, Tryz.ntmps35
  go_upto_region 1 with fail
  rw [zR]
  obtain ⟨wa, hwa⟩ : ∃ z, z = w.alloc (.cells (recCells {}) 38) := ⟨_, rfl⟩
  have HSA : Aside (wa.heap.size = w.heap.size + 1) := by rw [hwa]; simp [Aside]
  have HNa : Aside (Below w.heap.size w wa) := by rw [hwa]; exact new_alloc _ _
  have HBa : Aside (RecIn wa w.heap.size {}) := by rw [hwa]; exact RecIn.box w {}
  obtain ⟨R, hR⟩ : ∃ x, x = w.heap.size := ⟨_, rfl⟩
  rw [← hwa, ← hR]
  rw [← hR] at HBa
  have HRE := aside hR
  clear hwa hR
  obtain ⟨w0, hw0⟩ : ∃ z, z = wa.alloc (.cells (recCells { kind := 1 }) 38) := ⟨_, rfl⟩
  have HST : Aside ((Instr.storeAt 38 (.pointer (some ⟨wa.heap.size, 0, none⟩)) (.agg (recCells { kind := 1 }))).run Tryz.prog (wa.alloc (.cells (recCells {}) 38)) = .ok () w0) := by
    rw [Aside, hw0]
    exact storeAt_fresh wa 38 (recCells {}) _ (by rw [recCells_size]; kernel_rfl) rfl (recCells_one _ rfl rfl rfl)
  have HW0 := aside hw0
  clear hw0
  go_upto_region 2 with (first
    | (refine wpList_build_by rfl 38 _ rfl [(0, .int .i64 1)] rfl _ (build_k _ _) ?_)
    | (refine wpList_store_by rfl 38 _ _ rfl _ _ rfl rfl HST.out ?_)
    | fail)
  have hw0 := HW0.out
  have hR := HRE.out
  obtain ⟨L, hL⟩ : ∃ x, x = wa.heap.size := ⟨_, rfl⟩
  have HN0 : Aside (Below w.heap.size w w0) := by rw [hw0]; exact new_trans HNa.out (new_alloc _ _)
  have HR0 : Aside (RecIn w0 L { kind := 1 }) := by rw [hw0, hL]; exact RecIn.box _ _
  have HB0 : Aside (RecIn w0 R {}) := by rw [hw0]; exact HBa.out.new (new_alloc _ _)
  have hsa := HSA.out
  have hLb : L ≠ b := by omega
  have hRb : R ≠ b := by omega
  have hLR : L ≠ R := by omega
  have hRL : R ≠ L := by omega
  have hLw : w.heap.size ≤ L := by omega
  have hRw : w.heap.size ≤ R := by omega
  have HK0 : Aside (Keeps (· ≠ b) w w0) := keeps_of_new HN0.out _
  have HF0 : Aside (RfAt w0 b t S0) := H.out.on HN0.out
  rw [← hL]
  clear hw0 hR HRE hL hsa HSA HNa HBa HST HW0
  go_wp2_with fail
  refine (ref_take1 b t HTS.out S0 w0 HF0.out).mono ?_
  rintro e u1 ⟨rfl, hk, h1⟩
  obtain ⟨x1, hx⟩ : ∃ x, x = vl t S0 1 := ⟨_, rfl⟩
  obtain ⟨S1, hs⟩ : ∃ s, s = nx t S0 1 := ⟨_, rfl⟩
  rw [← hs] at h1
  rw [← hx]
  have hbd := vl_u8 t S0
  rw [← hx] at hbd
  have HX1 := aside hx
  have HS1 := aside hs
  have HK := aside (HK0.out.trans hk)
  have HF := aside h1
  have HR := aside (HR0.out.keeps hk hLb)
  have HB := aside (HB0.out.keeps hk hRb)
  have cf := HR.out.carriers
  have ff := HR.out.free 43
  clear hx hs hk h1 HF0 HK0 HR0 HB0
  go_wp2_with fail
  clear cf ff hbd
  obtain ⟨r1, hr1⟩ : ∃ r : RecV, r = { ({ kind := 1 } : RecV) with carriers := x1 } := ⟨_, rfl⟩
  have HV1 := aside hr1
  obtain ⟨w1, hw⟩ : ∃ z, z = u1.setCell ⟨L, 43, none⟩ (.int .i64 x1) := ⟨_, rfl⟩
  have HK1 : Aside (Keeps (· ≠ b) w w1) := by rw [hw]; exact keeps_set HK.out hLw _ _
  have HF1 : Aside (RfAt w1 b t S1) := by rw [hw]; exact HF.out.other hLb _ _
  have HR1 : Aside (RecIn w1 L r1) := by rw [hw, hr1]; exact HR.out.setCarriers _
  have HB1 : Aside (RecIn w1 R {}) := by rw [hw]; exact HB.out.other hRL _
  rw [← hw]
  clear hw HK HF HR HB hr1
  refine (ref_take1 b t HTS.out S1 w1 HF1.out).mono ?_
  rintro e u2 ⟨rfl, hk, h1⟩
  obtain ⟨x2, hx⟩ : ∃ x, x = vl t S1 1 := ⟨_, rfl⟩
  obtain ⟨S2, hs⟩ : ∃ s, s = nx t S1 1 := ⟨_, rfl⟩
  rw [← hs] at h1
  rw [← hx]
  have hbd := vl_u8 t S1
  rw [← hx] at hbd
  have HX2 := aside hx
  have HS2 := aside hs
  have HK := aside (HK1.out.trans hk)
  have HF := aside h1
  have HR := aside (HR1.out.keeps hk hLb)
  have HB := aside (HB1.out.keeps hk hRb)
  have cf := HR.out.commit
  have ff := HR.out.free 44
  clear hx hs hk h1 HF1 HK1 HR1 HB1
  go_wp2_with fail
  clear cf ff hbd
  obtain ⟨r2, hr2⟩ : ∃ r : RecV, r = { r1 with commit := x2 } := ⟨_, rfl⟩
  have HV2 := aside hr2
  obtain ⟨w2, hw⟩ : ∃ z, z = u2.setCell ⟨L, 44, none⟩ (.int .i64 x2) := ⟨_, rfl⟩
  have HK2 : Aside (Keeps (· ≠ b) w w2) := by rw [hw]; exact keeps_set HK.out hLw _ _
  have HF2 : Aside (RfAt w2 b t S2) := by rw [hw]; exact HF.out.other hLb _ _
  have HR2 : Aside (RecIn w2 L r2) := by rw [hw, hr2]; exact HR.out.setCommit _
  have HB2 : Aside (RecIn w2 R {}) := by rw [hw]; exact HB.out.other hRL _
  rw [← hw]
  clear hw HK HF HR HB hr2
  refine (ref_take1 b t HTS.out S2 w2 HF2.out).mono ?_
  rintro e u3 ⟨rfl, hk, h1⟩
  obtain ⟨x3, hx⟩ : ∃ x, x = vl t S2 1 := ⟨_, rfl⟩
  obtain ⟨S3, hs⟩ : ∃ s, s = nx t S2 1 := ⟨_, rfl⟩
  rw [← hs] at h1
  rw [← hx]
  have hbd := vl_u8 t S2
  rw [← hx] at hbd
  have HX3 := aside hx
  have HS3 := aside hs
  have HK := aside (HK2.out.trans hk)
  have HF := aside h1
  have HR := aside (HR2.out.keeps hk hLb)
  have HB := aside (HB2.out.keeps hk hRb)
  have cf := HR.out.reveal
  have ff := HR.out.free 45
  clear hx hs hk h1 HF2 HK2 HR2 HB2
  go_wp2_with fail
  clear cf ff hbd
  obtain ⟨r3, hr3⟩ : ∃ r : RecV, r = { r2 with reveal := x3 } := ⟨_, rfl⟩
  have HV3 := aside hr3
  obtain ⟨w3, hw⟩ : ∃ z, z = u3.setCell ⟨L, 45, none⟩ (.int .i64 x3) := ⟨_, rfl⟩
  have HK3 : Aside (Keeps (· ≠ b) w w3) := by rw [hw]; exact keeps_set HK.out hLw _ _
  have HF3 : Aside (RfAt w3 b t S3) := by rw [hw]; exact HF.out.other hLb _ _
  have HR3 : Aside (RecIn w3 L r3) := by rw [hw, hr3]; exact HR.out.setReveal _
  have HB3 : Aside (RecIn w3 R {}) := by rw [hw]; exact HB.out.other hRL _
  rw [← hw]
  clear hw HK HF HR HB hr3
  refine (ref_take1 b t HTS.out S3 w3 HF3.out).mono ?_
  rintro e u4 ⟨rfl, hk, h1⟩
  obtain ⟨x4, hx⟩ : ∃ x, x = vl t S3 1 := ⟨_, rfl⟩
  obtain ⟨S4, hs⟩ : ∃ s, s = nx t S3 1 := ⟨_, rfl⟩
  rw [← hs] at h1
  rw [← hx]
  have hbd := vl_u8 t S3
  rw [← hx] at hbd
  have HX4 := aside hx
  have HS4 := aside hs
  have HK := aside (HK3.out.trans hk)
  have HF := aside h1
  have HR := aside (HR3.out.keeps hk hLb)
  have HB := aside (HB3.out.keeps hk hRb)
  have cf := HR.out.scheme
  have ff := HR.out.free 46
  clear hx hs hk h1 HF3 HK3 HR3 HB3
  go_wp2_with fail
  clear cf ff hbd
  obtain ⟨r4, hr4⟩ : ∃ r : RecV, r = { r3 with scheme := x4 } := ⟨_, rfl⟩
  have HV4 := aside hr4
  obtain ⟨w4, hw⟩ : ∃ z, z = u4.setCell ⟨L, 46, none⟩ (.int .i64 x4) := ⟨_, rfl⟩
  have HK4 : Aside (Keeps (· ≠ b) w w4) := by rw [hw]; exact keeps_set HK.out hLw _ _
  have HF4 : Aside (RfAt w4 b t S4) := by rw [hw]; exact HF.out.other hLb _ _
  have HR4 : Aside (RecIn w4 L r4) := by rw [hw, hr4]; exact HR.out.setScheme _
  have HB4 : Aside (RecIn w4 R {}) := by rw [hw]; exact HB.out.other hRL _
  rw [← hw]
  clear hw HK HF HR HB hr4
  refine (ref_lots b t HTS.out S4 w4 HF4.out).mono ?_
  rintro e u5 ⟨_, rfl, how, hk, h1⟩
  obtain ⟨I5, hx⟩ : ∃ x, x = lotsN t S4 := ⟨_, rfl⟩
  rw [← hx] at how h1
  obtain ⟨S5, hs⟩ : ∃ s, s = I5.2 := ⟨_, rfl⟩
  rw [← hs] at h1
  have HX5 := aside hx
  have HS5 := aside hs
  obtain ⟨a5, cap5, rfl, _, _⟩ := ownsRow_form how
  have HLU4 : Aside (L < w4.heap.size) := HR4.out.lt
  have HBU4 : Aside (b < w4.heap.size) := HF4.out.lt
  have HOWN := aside how
  have HK := aside (HK4.out.trans hk)
  have HKS := aside hk
  have HF := aside h1
  have HR := aside (HR4.out.keeps hk hLb)
  have HB := aside (HB4.out.keeps hk hRb)
  have cf := HR.out.lots
  have ff := HR.out.free 47
  clear hx hs hk h1 how HF4 HK4 HR4 HB4
  go_wp2_with fail
  clear cf ff
  obtain ⟨r5, hr5⟩ : ∃ r : RecV, r = { r4 with lots := (Value.slice a5 I5.1.length cap5) } := ⟨_, rfl⟩
  have HV5 := aside hr5
  obtain ⟨w5, hw⟩ : ∃ z, z = u5.setCell ⟨L, 47, none⟩ (Value.slice a5 I5.1.length cap5) := ⟨_, rfl⟩
  have HK5 : Aside (Keeps (· ≠ b) w w5) := by rw [hw]; exact keeps_set HK.out hLw _ _
  have HF5 : Aside (RfAt w5 b t S5) := by rw [hw]; exact HF.out.other hLb _ _
  have HR5 : Aside (RecIn w5 L r5) := by rw [hw, hr5]; exact HR.out.setLots _
  have HB5 : Aside (RecIn w5 R {}) := by rw [hw]; exact HB.out.other hRL _
  have HKS5 : Aside (Keeps (fun q => q ≠ b ∧ q ≠ L) w4 w5) := by
    rw [hw]
    exact (HKS.out.mono fun q _ hq => hq.1).trans ((Keeps.refl _ _).setCell (p := ⟨L, 47, none⟩) (.inr (fun h => h.2 rfl)) _)
  have HOW5 : Aside (w5.ownsRow w4.heap.size 68 2 (Value.slice a5 I5.1.length cap5) I5.1.length (lotCells I5.1)) := by
    rw [hw]
    exact ownsRow_keeps HOWN.out (Keeps.setCell (K := (· ≠ L)) (Keeps.refl _ _) (p := ⟨L, 47, none⟩) (.inr (fun h => h rfl)) _) (fun k hk => by have := HLU4.out; omega)
  rw [← hw]
  clear hw HK HKS HF HR HB HOWN hr5
  refine (ref_ints b t HTS.out S5 w5 HF5.out).mono ?_
  rintro e u6 ⟨_, rfl, how, hk, h1⟩
  obtain ⟨I6, hx⟩ : ∃ x, x = intsN t S5 := ⟨_, rfl⟩
  rw [← hx] at how h1
  obtain ⟨S6, hs⟩ : ∃ s, s = I6.2 := ⟨_, rfl⟩
  rw [← hs] at h1
  have HX6 := aside hx
  have HS6 := aside hs
  obtain ⟨a6, cap6, rfl, _, _⟩ := ownsRow_form how
  have HLU5 : Aside (L < w5.heap.size) := HR5.out.lt
  have HBU5 : Aside (b < w5.heap.size) := HF5.out.lt
  have HOWN := aside how
  have HK := aside (HK5.out.trans hk)
  have HKS := aside hk
  have HF := aside h1
  have HR := aside (HR5.out.keeps hk hLb)
  have HB := aside (HB5.out.keeps hk hRb)
  have cf := HR.out.owners
  have ff := HR.out.free 48
  clear hx hs hk h1 how HF5 HK5 HR5 HB5
  obtain ⟨r6, hr6⟩ : ∃ r : RecV, r = { r5 with owners := (Value.slice a6 I6.1.length cap6) } := ⟨_, rfl⟩
  have HV6 := aside hr6
  obtain ⟨w6, hw⟩ : ∃ z, z = u6.setCell ⟨L, 48, none⟩ (Value.slice a6 I6.1.length cap6) := ⟨_, rfl⟩
  have HK6 : Aside (Keeps (· ≠ b) w w6) := by rw [hw]; exact keeps_set HK.out hLw _ _
  have HF6 : Aside (RfAt w6 b t S6) := by rw [hw]; exact HF.out.other hLb _ _
  have HR6 : Aside (RecIn w6 L r6) := by rw [hw, hr6]; exact HR.out.setOwners _
  have HB6 : Aside (RecIn w6 R {}) := by rw [hw]; exact HB.out.other hRL _
  have HKS6 : Aside (Keeps (fun q => q ≠ b ∧ q ≠ L) w5 w6) := by
    rw [hw]
    exact (HKS.out.mono fun q _ hq => hq.1).trans ((Keeps.refl _ _).setCell (p := ⟨L, 48, none⟩) (.inr (fun h => h.2 rfl)) _)
  have HOW6 : Aside (w6.ownsRow w5.heap.size 3 1 (Value.slice a6 I6.1.length cap6) I6.1.length (I6.1.map (Value.int .i64))) := by
    rw [hw]
    exact ownsRow_keeps HOWN.out (Keeps.setCell (K := (· ≠ L)) (Keeps.refl _ _) (p := ⟨L, 48, none⟩) (.inr (fun h => h rfl)) _) (fun k hk => by have := HLU5.out; omega)
  have HW6 := aside hw
  clear hw hr6
  go_upto_region 9 with fail
  rw [← HW6.out]
  clear HK HKS HF HR HB HOWN cf ff
  have HI6 : Aside (RowIF w.heap.size w6 (Value.slice a6 I6.1.length cap6) I6.1) := rowIF_owned rfl HOW6.out (by have := HLU5.out; omega)
  have HI5 : Aside (RowLF w.heap.size w6 (Value.slice a5 I5.1.length cap5) I5.1) :=
    rowLF_owned rfl (ownsRow_keeps HOW5.out HKS6.out (fun k hk => ⟨by have := HBU4.out; omega, by have := HLU4.out; omega⟩)) (by have := HLU4.out; omega)
  obtain ⟨b6, l6, o6, hto, hb1, hl1, ho1⟩ : ∃ bv lv ov, r6 = D.1.toV bv lv ov ∧ RowIF w.heap.size w6 bv D.1.barred ∧ RowLF w.heap.size w6 lv D.1.lots ∧ RowIF w.heap.size w6 ov D.1.owners := by
    have elots : D.1.lots = I5.1 := by rw [HD.out]; simp only [sceneW, sceneW4, HS6.out, HX6.out, HS5.out, HX5.out, HX4.out, HS4.out, HX3.out, HS3.out, HX2.out, HS2.out, HX1.out, HS1.out]
    have eowners : D.1.owners = I6.1 := by rw [HD.out]; simp only [sceneW, sceneW4, HS6.out, HX6.out, HS5.out, HX5.out, HX4.out, HS4.out, HX3.out, HS3.out, HX2.out, HS2.out, HX1.out, HS1.out]
    refine ⟨(.slice none 0 0), (Value.slice a5 I5.1.length cap5), (Value.slice a6 I6.1.length cap6), ?_, ?_, ?_, ?_⟩
    · rw [HD.out]; simp only [HV6.out, HV5.out, HV4.out, HV3.out, HV2.out, HV1.out, HS6.out, HX6.out, HS5.out, HX5.out, HX4.out, HS4.out, HX3.out, HS3.out, HX2.out, HS2.out, HX1.out, HS1.out]; simp only [sceneW, sceneW4, RecD.toV, rep_getD]
    · rw [HD.out]; exact RowIF.nil _ _
    · rw [elots]; exact HI5.out
    · rw [eowners]; exact HI6.out
  have hrf : RecFrom w.heap.size w6 r6 D.1 := ⟨b6, l6, o6, hto, hb1, hl1, ho1⟩
  have hone := hrf.one
  have hi0 : (Tryz.prog.info? 38).map (·.size) = some (recCells r6).size := by rw [recCells_size]; kernel_rfl
  have HRF := aside hrf
  obtain ⟨wz, hwz⟩ : ∃ z, z = w6.setRow R (recCells r6) := ⟨_, rfl⟩
  have HRZ : Aside (RecIn wz R r6) := by rw [hwz]; exact HB6.out.setRow _
  have HE : Aside (BodyRf b t D w (.returned (.agg (recCells r6))) wz) := by
    refine ⟨_, rfl, ?_, ?_, ?_⟩
    · rw [hwz]
      exact HRF.out.keepsT (keeps_setRow (K := (· ≠ R)) w6 R _ (fun h => h rfl)) (fun k hb e => by subst e; exact row_no_rec hb HB6.out)
    · rw [hwz]
      exact keeps_behind HK6.out (keeps_setRow w6 R _ (fun h => by omega))
    · have hf := HF6.out.row hRb (recCells r6)
      rw [← hwz] at hf
      have hq : D.2 = S6 := by rw [HD.out]; simp only [HS6.out, HX6.out, HS5.out, HX5.out, HX4.out, HS4.out, HX3.out, HS3.out, HX2.out, HS2.out, HX1.out, HS1.out, sceneW, sceneW4]
      rw [hq]
      exact hf
  have HWZ := aside hwz
  clear hrf hwz hto hb1 hl1 ho1
  go_wp2_with (first
    | (refine wpList_load_row rfl _ _ rfl L rfl _ (recCells r6) (0, 0) _ HR6.out Tryz.underlying38 rfl hi0 ?_)
    | (refine wpList_store_row rfl _ _ _ rfl R (recCells r6) rfl rfl 38 _ HB6.out hi0 rfl hone ?_; rw [← HWZ.out])
    | fail)
  refine bodyPost_ret (results_cell_row rfl _ _ R 38 (recCells r6) (0, 0) _ rfl HRZ.out Tryz.underlying38 rfl hi0) rfl ?_
  exact HE.out
end Go.Proofs.YtkpmcjfolncmmaaGreatDoor
namespace Go.Proofs.YtkpmcjfolncmmaaGreatDoor
open Go.RowKit
set_option maxHeartbeats 4000000 in
set_option maxRecDepth 100000 in
theorem body_open (b : Nat) (t : ByteArray) (hts : t.size ≤ 9223372036854775807) (S0 : Option Nat) (w : World) (h : RfAt w b t S0) :
    Calls Tryz.prog 35 #[.pointer (some ⟨b, 0, none⟩), .int .i64 2] w (BodyRf b t (openW t S0) w) := by
  have H := aside h
  have hbl := h.lt
  have HTS := aside hts
  obtain ⟨D, hD⟩ : ∃ D, D = openW t S0 := ⟨_, rfl⟩
  rw [← hD]
  have HD := aside hD
  clear h hts hD
  go_enter Tryz.func35, Tryz.ntmps35
  go_upto_region 1 with fail
  rw [zR]
  obtain ⟨wa, hwa⟩ : ∃ z, z = w.alloc (.cells (recCells {}) 38) := ⟨_, rfl⟩
  have HSA : Aside (wa.heap.size = w.heap.size + 1) := by rw [hwa]; simp [Aside]
  have HNa : Aside (Below w.heap.size w wa) := by rw [hwa]; exact new_alloc _ _
  have HBa : Aside (RecIn wa w.heap.size {}) := by rw [hwa]; exact RecIn.box w {}
  obtain ⟨R, hR⟩ : ∃ x, x = w.heap.size := ⟨_, rfl⟩
  rw [← hwa, ← hR]
  rw [← hR] at HBa
  have HRE := aside hR
  clear hwa hR
  obtain ⟨w0, hw0⟩ : ∃ z, z = wa.alloc (.cells (recCells { kind := 2 }) 38) := ⟨_, rfl⟩
  have HST : Aside ((Instr.storeAt 38 (.pointer (some ⟨wa.heap.size, 0, none⟩)) (.agg (recCells { kind := 2 }))).run Tryz.prog (wa.alloc (.cells (recCells {}) 38)) = .ok () w0) := by
    rw [Aside, hw0]
    exact storeAt_fresh wa 38 (recCells {}) _ (by rw [recCells_size]; kernel_rfl) rfl (recCells_one _ rfl rfl rfl)
  have HW0 := aside hw0
  clear hw0
  go_upto_region 2 with (first
    | (refine wpList_build_by rfl 38 _ rfl [(0, .int .i64 2)] rfl _ (build_k _ _) ?_)
    | (refine wpList_store_by rfl 38 _ _ rfl _ _ rfl rfl HST.out ?_)
    | fail)
  have hw0 := HW0.out
  have hR := HRE.out
  obtain ⟨L, hL⟩ : ∃ x, x = wa.heap.size := ⟨_, rfl⟩
  have HN0 : Aside (Below w.heap.size w w0) := by rw [hw0]; exact new_trans HNa.out (new_alloc _ _)
  have HR0 : Aside (RecIn w0 L { kind := 2 }) := by rw [hw0, hL]; exact RecIn.box _ _
  have HB0 : Aside (RecIn w0 R {}) := by rw [hw0]; exact HBa.out.new (new_alloc _ _)
  have hsa := HSA.out
  have hLb : L ≠ b := by omega
  have hRb : R ≠ b := by omega
  have hLR : L ≠ R := by omega
  have hRL : R ≠ L := by omega
  have hLw : w.heap.size ≤ L := by omega
  have hRw : w.heap.size ≤ R := by omega
  have HK0 : Aside (Keeps (· ≠ b) w w0) := keeps_of_new HN0.out _
  have HF0 : Aside (RfAt w0 b t S0) := H.out.on HN0.out
  rw [← hL]
  clear hw0 hR HRE hL hsa HSA HNa HBa HST HW0
  go_wp2_with fail
  refine (ref_take1 b t HTS.out S0 w0 HF0.out).mono ?_
  rintro e u1 ⟨rfl, hk, h1⟩
  obtain ⟨x1, hx⟩ : ∃ x, x = vl t S0 1 := ⟨_, rfl⟩
  obtain ⟨S1, hs⟩ : ∃ s, s = nx t S0 1 := ⟨_, rfl⟩
  rw [← hs] at h1
  rw [← hx]
  have hbd := vl_u8 t S0
  rw [← hx] at hbd
  have HX1 := aside hx
  have HS1 := aside hs
  have HK := aside (HK0.out.trans hk)
  have HF := aside h1
  have HR := aside (HR0.out.keeps hk hLb)
  have HB := aside (HB0.out.keeps hk hRb)
  have cf := HR.out.round
  have ff := HR.out.free 1
  clear hx hs hk h1 HF0 HK0 HR0 HB0
  go_wp2_with fail
  clear cf ff hbd
  obtain ⟨r1, hr1⟩ : ∃ r : RecV, r = { ({ kind := 2 } : RecV) with round := x1 } := ⟨_, rfl⟩
  have HV1 := aside hr1
  obtain ⟨w1, hw⟩ : ∃ z, z = u1.setCell ⟨L, 1, none⟩ (.int .i64 x1) := ⟨_, rfl⟩
  have HK1 : Aside (Keeps (· ≠ b) w w1) := by rw [hw]; exact keeps_set HK.out hLw _ _
  have HF1 : Aside (RfAt w1 b t S1) := by rw [hw]; exact HF.out.other hLb _ _
  have HR1 : Aside (RecIn w1 L r1) := by rw [hw, hr1]; exact HR.out.setRound _
  have HB1 : Aside (RecIn w1 R {}) := by rw [hw]; exact HB.out.other hRL _
  rw [← hw]
  clear hw HK HF HR HB hr1
  refine (ref_take1 b t HTS.out S1 w1 HF1.out).mono ?_
  rintro e u2 ⟨rfl, hk, h1⟩
  obtain ⟨x2, hx⟩ : ∃ x, x = vl t S1 1 := ⟨_, rfl⟩
  obtain ⟨S2, hs⟩ : ∃ s, s = nx t S1 1 := ⟨_, rfl⟩
  rw [← hs] at h1
  rw [← hx]
  have hbd := vl_u8 t S1
  rw [← hx] at hbd
  have HX2 := aside hx
  have HS2 := aside hs
  have HK := aside (HK1.out.trans hk)
  have HF := aside h1
  have HR := aside (HR1.out.keeps hk hLb)
  have HB := aside (HB1.out.keeps hk hRb)
  have cf := HR.out.lot
  have ff := HR.out.free 2
  clear hx hs hk h1 HF1 HK1 HR1 HB1
  go_wp2_with fail
  clear cf ff hbd
  obtain ⟨r2, hr2⟩ : ∃ r : RecV, r = { r1 with lot := x2 } := ⟨_, rfl⟩
  have HV2 := aside hr2
  obtain ⟨w2, hw⟩ : ∃ z, z = u2.setCell ⟨L, 2, none⟩ (.int .i64 x2) := ⟨_, rfl⟩
  have HK2 : Aside (Keeps (· ≠ b) w w2) := by rw [hw]; exact keeps_set HK.out hLw _ _
  have HF2 : Aside (RfAt w2 b t S2) := by rw [hw]; exact HF.out.other hLb _ _
  have HR2 : Aside (RecIn w2 L r2) := by rw [hw, hr2]; exact HR.out.setLot _
  have HB2 : Aside (RecIn w2 R {}) := by rw [hw]; exact HB.out.other hRL _
  rw [← hw]
  clear hw HK HF HR HB hr2
  refine (ref_tick b t HTS.out S2 w2 HF2.out).mono ?_
  rintro e u3 ⟨rfl, hk, h1⟩
  obtain ⟨x3, hx⟩ : ∃ x, x = tickV (vl t S2 8) := ⟨_, rfl⟩
  obtain ⟨S3, hs⟩ : ∃ s, s = nx t S2 8 := ⟨_, rfl⟩
  rw [← hs] at h1
  rw [← hx]
  have HX3 := aside hx
  have HS3 := aside hs
  have HK := aside (HK2.out.trans hk)
  have HF := aside h1
  have HR := aside (HR2.out.keeps hk hLb)
  have HB := aside (HB2.out.keeps hk hRb)
  have cf := HR.out.tick
  have ff := HR.out.free 4
  clear hx hs hk h1 HF2 HK2 HR2 HB2
  go_wp2_with fail
  clear cf ff 
  obtain ⟨r3, hr3⟩ : ∃ r : RecV, r = { r2 with tick := x3 } := ⟨_, rfl⟩
  have HV3 := aside hr3
  obtain ⟨w3, hw⟩ : ∃ z, z = u3.setCell ⟨L, 4, none⟩ (.int .i64 x3) := ⟨_, rfl⟩
  have HK3 : Aside (Keeps (· ≠ b) w w3) := by rw [hw]; exact keeps_set HK.out hLw _ _
  have HF3 : Aside (RfAt w3 b t S3) := by rw [hw]; exact HF.out.other hLb _ _
  have HR3 : Aside (RecIn w3 L r3) := by rw [hw, hr3]; exact HR.out.setTick _
  have HB3 : Aside (RecIn w3 R {}) := by rw [hw]; exact HB.out.other hRL _
  rw [← hw]
  clear hw HK HF HR HB hr3
  refine (ref_ints b t HTS.out S3 w3 HF3.out).mono ?_
  rintro e u4 ⟨_, rfl, how, hk, h1⟩
  obtain ⟨I4, hx⟩ : ∃ x, x = intsN t S3 := ⟨_, rfl⟩
  rw [← hx] at how h1
  obtain ⟨S4, hs⟩ : ∃ s, s = I4.2 := ⟨_, rfl⟩
  rw [← hs] at h1
  have HX4 := aside hx
  have HS4 := aside hs
  obtain ⟨a4, cap4, rfl, _, _⟩ := ownsRow_form how
  have HLU3 : Aside (L < w3.heap.size) := HR3.out.lt
  have HBU3 : Aside (b < w3.heap.size) := HF3.out.lt
  have HOWN := aside how
  have HK := aside (HK3.out.trans hk)
  have HKS := aside hk
  have HF := aside h1
  have HR := aside (HR3.out.keeps hk hLb)
  have HB := aside (HB3.out.keeps hk hRb)
  have cf := HR.out.barred
  have ff := HR.out.free 5
  clear hx hs hk h1 how HF3 HK3 HR3 HB3
  obtain ⟨r4, hr4⟩ : ∃ r : RecV, r = { r3 with barred := (Value.slice a4 I4.1.length cap4) } := ⟨_, rfl⟩
  have HV4 := aside hr4
  obtain ⟨w4, hw⟩ : ∃ z, z = u4.setCell ⟨L, 5, none⟩ (Value.slice a4 I4.1.length cap4) := ⟨_, rfl⟩
  have HK4 : Aside (Keeps (· ≠ b) w w4) := by rw [hw]; exact keeps_set HK.out hLw _ _
  have HF4 : Aside (RfAt w4 b t S4) := by rw [hw]; exact HF.out.other hLb _ _
  have HR4 : Aside (RecIn w4 L r4) := by rw [hw, hr4]; exact HR.out.setBarred _
  have HB4 : Aside (RecIn w4 R {}) := by rw [hw]; exact HB.out.other hRL _
  have HKS4 : Aside (Keeps (fun q => q ≠ b ∧ q ≠ L) w3 w4) := by
    rw [hw]
    exact (HKS.out.mono fun q _ hq => hq.1).trans ((Keeps.refl _ _).setCell (p := ⟨L, 5, none⟩) (.inr (fun h => h.2 rfl)) _)
  have HOW4 : Aside (w4.ownsRow w3.heap.size 3 1 (Value.slice a4 I4.1.length cap4) I4.1.length (I4.1.map (Value.int .i64))) := by
    rw [hw]
    exact ownsRow_keeps HOWN.out (Keeps.setCell (K := (· ≠ L)) (Keeps.refl _ _) (p := ⟨L, 5, none⟩) (.inr (fun h => h rfl)) _) (fun k hk => by have := HLU3.out; omega)
  have HW4 := aside hw
  clear hw hr4
  go_upto_region 32 with fail
  rw [← HW4.out]
  clear HK HKS HF HR HB HOWN cf ff
  have HI4 : Aside (RowIF w.heap.size w4 (Value.slice a4 I4.1.length cap4) I4.1) := rowIF_owned rfl HOW4.out (by have := HLU3.out; omega)
  obtain ⟨b4, l4, o4, hto, hb1, hl1, ho1⟩ : ∃ bv lv ov, r4 = D.1.toV bv lv ov ∧ RowIF w.heap.size w4 bv D.1.barred ∧ RowLF w.heap.size w4 lv D.1.lots ∧ RowIF w.heap.size w4 ov D.1.owners := by
    have ebarred : D.1.barred = I4.1 := by rw [HD.out]; simp only [openW, HS4.out, HX4.out, HX3.out, HS3.out, HX2.out, HS2.out, HX1.out, HS1.out]
    refine ⟨(Value.slice a4 I4.1.length cap4), (.slice none 0 0), (.slice none 0 0), ?_, ?_, ?_, ?_⟩
    · rw [HD.out]; simp only [HV4.out, HV3.out, HV2.out, HV1.out, HS4.out, HX4.out, HX3.out, HS3.out, HX2.out, HS2.out, HX1.out, HS1.out]; simp only [openW, RecD.toV, rep_getD]
    · rw [ebarred]; exact HI4.out
    · rw [HD.out]; exact RowLF.nil _ _
    · rw [HD.out]; exact RowIF.nil _ _
  have hrf : RecFrom w.heap.size w4 r4 D.1 := ⟨b4, l4, o4, hto, hb1, hl1, ho1⟩
  have hone := hrf.one
  have hi0 : (Tryz.prog.info? 38).map (·.size) = some (recCells r4).size := by rw [recCells_size]; kernel_rfl
  have HRF := aside hrf
  obtain ⟨wz, hwz⟩ : ∃ z, z = w4.setRow R (recCells r4) := ⟨_, rfl⟩
  have HRZ : Aside (RecIn wz R r4) := by rw [hwz]; exact HB4.out.setRow _
  have HE : Aside (BodyRf b t D w (.returned (.agg (recCells r4))) wz) := by
    refine ⟨_, rfl, ?_, ?_, ?_⟩
    · rw [hwz]
      exact HRF.out.keepsT (keeps_setRow (K := (· ≠ R)) w4 R _ (fun h => h rfl)) (fun k hb e => by subst e; exact row_no_rec hb HB4.out)
    · rw [hwz]
      exact keeps_behind HK4.out (keeps_setRow w4 R _ (fun h => by omega))
    · have hf := HF4.out.row hRb (recCells r4)
      rw [← hwz] at hf
      have hq : D.2 = S4 := by rw [HD.out]; simp only [HS4.out, HX4.out, HX3.out, HS3.out, HX2.out, HS2.out, HX1.out, HS1.out, openW]
      rw [hq]
      exact hf
  have HWZ := aside hwz
  clear hrf hwz hto hb1 hl1 ho1
  go_wp2_with (first
    | (refine wpList_load_row rfl _ _ rfl L rfl _ (recCells r4) (0, 0) _ HR4.out Tryz.underlying38 rfl hi0 ?_)
    | (refine wpList_store_row rfl _ _ _ rfl R (recCells r4) rfl rfl 38 _ HB4.out hi0 rfl hone ?_; rw [← HWZ.out])
    | fail)
  refine bodyPost_ret (results_cell_row rfl _ _ R 38 (recCells r4) (0, 0) _ rfl HRZ.out Tryz.underlying38 rfl hi0) rfl ?_
  exact HE.out
end Go.Proofs.YtkpmcjfolncmmaaGreatDoor
namespace Go.Proofs.YtkpmcjfolncmmaaGreatDoor
open Go.RowKit
set_option maxHeartbeats 4000000 in
set_option maxRecDepth 100000 in
theorem body_commit (b : Nat) (t : ByteArray) (hts : t.size ≤ 9223372036854775807) (S0 : Option Nat) (w : World) (h : RfAt w b t S0) :
    Calls Tryz.prog 35 #[.pointer (some ⟨b, 0, none⟩), .int .i64 3] w (BodyRf b t (commitW t S0) w) := by
  have H := aside h
  have hbl := h.lt
  have HTS := aside hts
  obtain ⟨D, hD⟩ : ∃ D, D = commitW t S0 := ⟨_, rfl⟩
  rw [← hD]
  have HD := aside hD
  clear h hts hD
  go_enter Tryz.func35, Tryz.ntmps35
  go_upto_region 1 with fail
  rw [zR]
  obtain ⟨wa, hwa⟩ : ∃ z, z = w.alloc (.cells (recCells {}) 38) := ⟨_, rfl⟩
  have HSA : Aside (wa.heap.size = w.heap.size + 1) := by rw [hwa]; simp [Aside]
  have HNa : Aside (Below w.heap.size w wa) := by rw [hwa]; exact new_alloc _ _
  have HBa : Aside (RecIn wa w.heap.size {}) := by rw [hwa]; exact RecIn.box w {}
  obtain ⟨R, hR⟩ : ∃ x, x = w.heap.size := ⟨_, rfl⟩
  rw [← hwa, ← hR]
  rw [← hR] at HBa
  have HRE := aside hR
  clear hwa hR
  obtain ⟨w0, hw0⟩ : ∃ z, z = wa.alloc (.cells (recCells { kind := 3 }) 38) := ⟨_, rfl⟩
  have HST : Aside ((Instr.storeAt 38 (.pointer (some ⟨wa.heap.size, 0, none⟩)) (.agg (recCells { kind := 3 }))).run Tryz.prog (wa.alloc (.cells (recCells {}) 38)) = .ok () w0) := by
    rw [Aside, hw0]
    exact storeAt_fresh wa 38 (recCells {}) _ (by rw [recCells_size]; kernel_rfl) rfl (recCells_one _ rfl rfl rfl)
  have HW0 := aside hw0
  clear hw0
  go_upto_region 2 with (first
    | (refine wpList_build_by rfl 38 _ rfl [(0, .int .i64 3)] rfl _ (build_k _ _) ?_)
    | (refine wpList_store_by rfl 38 _ _ rfl _ _ rfl rfl HST.out ?_)
    | fail)
  have hw0 := HW0.out
  have hR := HRE.out
  obtain ⟨L, hL⟩ : ∃ x, x = wa.heap.size := ⟨_, rfl⟩
  have HN0 : Aside (Below w.heap.size w w0) := by rw [hw0]; exact new_trans HNa.out (new_alloc _ _)
  have HR0 : Aside (RecIn w0 L { kind := 3 }) := by rw [hw0, hL]; exact RecIn.box _ _
  have HB0 : Aside (RecIn w0 R {}) := by rw [hw0]; exact HBa.out.new (new_alloc _ _)
  have hsa := HSA.out
  have hLb : L ≠ b := by omega
  have hRb : R ≠ b := by omega
  have hLR : L ≠ R := by omega
  have hRL : R ≠ L := by omega
  have hLw : w.heap.size ≤ L := by omega
  have hRw : w.heap.size ≤ R := by omega
  have HK0 : Aside (Keeps (· ≠ b) w w0) := keeps_of_new HN0.out _
  have HF0 : Aside (RfAt w0 b t S0) := H.out.on HN0.out
  rw [← hL]
  clear hw0 hR HRE hL hsa HSA HNa HBa HST HW0
  go_wp2_with fail
  refine (ref_take1 b t HTS.out S0 w0 HF0.out).mono ?_
  rintro e u1 ⟨rfl, hk, h1⟩
  obtain ⟨x1, hx⟩ : ∃ x, x = vl t S0 1 := ⟨_, rfl⟩
  obtain ⟨S1, hs⟩ : ∃ s, s = nx t S0 1 := ⟨_, rfl⟩
  rw [← hs] at h1
  rw [← hx]
  have hbd := vl_u8 t S0
  rw [← hx] at hbd
  have HX1 := aside hx
  have HS1 := aside hs
  have HK := aside (HK0.out.trans hk)
  have HF := aside h1
  have HR := aside (HR0.out.keeps hk hLb)
  have HB := aside (HB0.out.keeps hk hRb)
  have cf := HR.out.round
  have ff := HR.out.free 1
  clear hx hs hk h1 HF0 HK0 HR0 HB0
  go_wp2_with fail
  clear cf ff hbd
  obtain ⟨r1, hr1⟩ : ∃ r : RecV, r = { ({ kind := 3 } : RecV) with round := x1 } := ⟨_, rfl⟩
  have HV1 := aside hr1
  obtain ⟨w1, hw⟩ : ∃ z, z = u1.setCell ⟨L, 1, none⟩ (.int .i64 x1) := ⟨_, rfl⟩
  have HK1 : Aside (Keeps (· ≠ b) w w1) := by rw [hw]; exact keeps_set HK.out hLw _ _
  have HF1 : Aside (RfAt w1 b t S1) := by rw [hw]; exact HF.out.other hLb _ _
  have HR1 : Aside (RecIn w1 L r1) := by rw [hw, hr1]; exact HR.out.setRound _
  have HB1 : Aside (RecIn w1 R {}) := by rw [hw]; exact HB.out.other hRL _
  rw [← hw]
  clear hw HK HF HR HB hr1
  refine (ref_take1 b t HTS.out S1 w1 HF1.out).mono ?_
  rintro e u2 ⟨rfl, hk, h1⟩
  obtain ⟨x2, hx⟩ : ∃ x, x = vl t S1 1 := ⟨_, rfl⟩
  obtain ⟨S2, hs⟩ : ∃ s, s = nx t S1 1 := ⟨_, rfl⟩
  rw [← hs] at h1
  rw [← hx]
  have hbd := vl_u8 t S1
  rw [← hx] at hbd
  have HX2 := aside hx
  have HS2 := aside hs
  have HK := aside (HK1.out.trans hk)
  have HF := aside h1
  have HR := aside (HR1.out.keeps hk hLb)
  have HB := aside (HB1.out.keeps hk hRb)
  have cf := HR.out.carrier
  have ff := HR.out.free 3
  clear hx hs hk h1 HF1 HK1 HR1 HB1
  go_wp2_with fail
  clear cf ff hbd
  obtain ⟨r2, hr2⟩ : ∃ r : RecV, r = { r1 with carrier := x2 } := ⟨_, rfl⟩
  have HV2 := aside hr2
  obtain ⟨w2, hw⟩ : ∃ z, z = u2.setCell ⟨L, 3, none⟩ (.int .i64 x2) := ⟨_, rfl⟩
  have HK2 : Aside (Keeps (· ≠ b) w w2) := by rw [hw]; exact keeps_set HK.out hLw _ _
  have HF2 : Aside (RfAt w2 b t S2) := by rw [hw]; exact HF.out.other hLb _ _
  have HR2 : Aside (RecIn w2 L r2) := by rw [hw, hr2]; exact HR.out.setCarrier _
  have HB2 : Aside (RecIn w2 R {}) := by rw [hw]; exact HB.out.other hRL _
  rw [← hw]
  clear hw HK HF HR HB hr2
  have HR2d : Aside (RecIn w2 L { r2 with dig := fun j => (dgL t S2 0).getD j 0 }) := by
    rw [dgL_zero]
    have e : ({ r2 with dig := fun _ => 0 } : RecV) = r2 := by rw [HV2.out, HV1.out]
    rw [e]; exact HR2
  clear HR2
  go_wp2_with fail
  go_loopg [6] 32 (fun gk v6 wr => ∃ k : Nat, k ≤ 32 ∧ v6 = .int .i64 k ∧ 32 - k ≤ gk ∧ Aside (Keeps (· ≠ b) w wr) ∧ Aside (RfAt wr b t (dgS t S2 k)) ∧ Aside (RecIn wr L { r2 with dig := fun j => (dgL t S2 k).getD j 0 }) ∧ Aside (RecIn wr R {}))
  case atStart => exact ⟨0, by omega, rfl, by omega, HK2, HF2, HR2d, HB2⟩
  case round =>
    clear HK2 HF2 HR2d HB2
    obtain ⟨k, hk32, rfl, hgk, HK2, HF2, HR2, HB2⟩ := hrel
    by_cases hlt : k < 32
    · have hki : (k : Int) < 32 := by omega
      go_wp2_with fail
      refine (ref_take1 b t HTS.out (dgS t S2 k) wr HF2.out).mono ?_
      rintro e u ⟨rfl, hk, h1⟩
      have hbd := vl_u8 t (dgS t S2 k)
      obtain ⟨x, hx⟩ : ∃ x, x = vl t (dgS t S2 k) 1 := ⟨_, rfl⟩
      rw [← hx] at hbd ⊢
      have HX := aside hx
      have HK := aside (HK2.out.trans hk)
      have HF : Aside (RfAt u b t (dgS t S2 (k + 1))) := h1
      have HR := aside (HR2.out.keeps hk hLb)
      have HB := aside (HB2.out.keeps hk hRb)
      have cd := HR.out.dig k hlt
      have fd := HR.out.free (6 + k)
      clear hx hk h1 HK2 HF2 HR2 HB2
      go_wp2_with fail
      obtain ⟨w4, hw⟩ : ∃ z, z = u.setCell ⟨L, 6 + k, none⟩ (.int .u8 x) := ⟨_, rfl⟩
      rw [← hw]
      have HK4 : Aside (Keeps (· ≠ b) w w4) := by rw [hw]; exact keeps_set HK.out hLw _ _
      have HF4 : Aside (RfAt w4 b t (dgS t S2 (k + 1))) := by rw [hw]; exact HF.out.other hLb _ _
      have HR4 : Aside (RecIn w4 L { r2 with dig := fun j => (dgL t S2 (k + 1)).getD j 0 }) := by
        have := HR.out.setDig k hlt x
        rw [HX.out, dgL_upd, ← HX.out, ← hw] at this
        exact this
      have HB4 : Aside (RecIn w4 R {}) := by rw [hw]; exact HB.out.other hRL _
      clear hw cd fd hbd HK HF HR HB
      go_roundg (32 - (k + 1))
      case measure => omega
      case rel => exact ⟨k + 1, by omega, rfl, by omega, HK4, HF4, HR4, HB4⟩
    · have hki : ¬ (k : Int) < 32 := by omega
      have hk : k = 32 := by omega
      subst hk
      obtain ⟨w3, hw3⟩ : ∃ z, z = wr := ⟨_, rfl⟩
      subst hw3
      obtain ⟨r3, hr3⟩ : ∃ r : RecV, r = { r2 with dig := fun j => (dgL t S2 32).getD j 0 } := ⟨_, rfl⟩
      have HV3 := aside hr3
      obtain ⟨S3, hs3⟩ : ∃ s, s = dgS t S2 32 := ⟨_, rfl⟩
      have HS3 := aside hs3
      have HR3 : Aside (RecIn w3 L r3) := by rw [hr3]; exact HR2
      have HF3 : Aside (RfAt w3 b t S3) := by rw [hs3]; exact HF2
      have HK3 := HK2
      have HB3 := HB2
      clear HR2 HF2 HK2 HB2 hr3 hs3 hgk
      go_wp2_with fail
      refine (ref_tick b t HTS.out S3 w3 HF3.out).mono ?_
      rintro e u4 ⟨rfl, hk, h1⟩
      obtain ⟨x4, hx⟩ : ∃ x, x = tickV (vl t S3 8) := ⟨_, rfl⟩
      obtain ⟨S4, hs⟩ : ∃ s, s = nx t S3 8 := ⟨_, rfl⟩
      rw [← hs] at h1
      rw [← hx]
      have HX4 := aside hx
      have HS4 := aside hs
      have HK := aside (HK3.out.trans hk)
      have HF := aside h1
      have HR := aside (HR3.out.keeps hk hLb)
      have HB := aside (HB3.out.keeps hk hRb)
      have cf := HR.out.tick
      have ff := HR.out.free 4
      clear hx hs hk h1 HF3 HK3 HR3 HB3
      obtain ⟨r4, hr4⟩ : ∃ r : RecV, r = { r3 with tick := x4 } := ⟨_, rfl⟩
      have HV4 := aside hr4
      obtain ⟨w4, hw⟩ : ∃ z, z = u4.setCell ⟨L, 4, none⟩ (.int .i64 x4) := ⟨_, rfl⟩
      have HK4 : Aside (Keeps (· ≠ b) w w4) := by rw [hw]; exact keeps_set HK.out hLw _ _
      have HF4 : Aside (RfAt w4 b t S4) := by rw [hw]; exact HF.out.other hLb _ _
      have HR4 : Aside (RecIn w4 L r4) := by rw [hw, hr4]; exact HR.out.setTick _
      have HB4 : Aside (RecIn w4 R {}) := by rw [hw]; exact HB.out.other hRL _
      have HW4 := aside hw
      clear hw hr4
      go_upto_region 32 with fail
      rw [← HW4.out]
      clear HK HF HR HB cf ff
      obtain ⟨b4, l4, o4, hto, hb1, hl1, ho1⟩ : ∃ bv lv ov, r4 = D.1.toV bv lv ov ∧ RowIF w.heap.size w4 bv D.1.barred ∧ RowLF w.heap.size w4 lv D.1.lots ∧ RowIF w.heap.size w4 ov D.1.owners := by
        rw [HD.out]
        exact ⟨_, _, _, by simp only [HV4.out, HV3.out, HV2.out, HV1.out, HX4.out, HS4.out, HS3.out, HX2.out, HS2.out, HX1.out, HS1.out]; simp only [commitW, RecD.toV], RowIF.nil _ _, RowLF.nil _ _, RowIF.nil _ _⟩
      have hrf : RecFrom w.heap.size w4 r4 D.1 := ⟨b4, l4, o4, hto, hb1, hl1, ho1⟩
      have hone := hrf.one
      have hi0 : (Tryz.prog.info? 38).map (·.size) = some (recCells r4).size := by rw [recCells_size]; kernel_rfl
      have HRF := aside hrf
      obtain ⟨wz, hwz⟩ : ∃ z, z = w4.setRow R (recCells r4) := ⟨_, rfl⟩
      have HRZ : Aside (RecIn wz R r4) := by rw [hwz]; exact HB4.out.setRow _
      have HE : Aside (BodyRf b t D w (.returned (.agg (recCells r4))) wz) := by
        refine ⟨_, rfl, ?_, ?_, ?_⟩
        · rw [hwz]
          exact HRF.out.keepsT (keeps_setRow (K := (· ≠ R)) w4 R _ (fun h => h rfl)) (fun k hb e => by subst e; exact row_no_rec hb HB4.out)
        · rw [hwz]
          exact keeps_behind HK4.out (keeps_setRow w4 R _ (fun h => by omega))
        · have hf := HF4.out.row hRb (recCells r4)
          rw [← hwz] at hf
          have hq : D.2 = S4 := by rw [HD.out]; simp only [HX4.out, HS4.out, HS3.out, HX2.out, HS2.out, HX1.out, HS1.out, commitW]
          rw [hq]
          exact hf
      have HWZ := aside hwz
      clear hrf hwz hto hb1 hl1 ho1
      go_wp2_with (first
        | (refine wpList_load_row rfl _ _ rfl L rfl _ (recCells r4) (0, 0) _ HR4.out Tryz.underlying38 rfl hi0 ?_)
        | (refine wpList_store_row rfl _ _ _ rfl R (recCells r4) rfl rfl 38 _ HB4.out hi0 rfl hone ?_; rw [← HWZ.out])
        | fail)
      refine bodyPost_ret (results_cell_row rfl _ _ R 38 (recCells r4) (0, 0) _ rfl HRZ.out Tryz.underlying38 rfl hi0) rfl ?_
      exact HE.out
end Go.Proofs.YtkpmcjfolncmmaaGreatDoor
namespace Go.Proofs.YtkpmcjfolncmmaaGreatDoor
open Go.RowKit
set_option maxHeartbeats 4000000 in
set_option maxRecDepth 100000 in
theorem body_reveal (b : Nat) (t : ByteArray) (hts : t.size ≤ 9223372036854775807) (S0 : Option Nat) (w : World) (h : RfAt w b t S0) :
    Calls Tryz.prog 35 #[.pointer (some ⟨b, 0, none⟩), .int .i64 4] w (BodyRf b t (revealW t S0) w) := by
  have H := aside h
  have hbl := h.lt
  have HTS := aside hts
  obtain ⟨D, hD⟩ : ∃ D, D = revealW t S0 := ⟨_, rfl⟩
  rw [← hD]
  have HD := aside hD
  clear h hts hD
  go_enter Tryz.func35, Tryz.ntmps35
  go_upto_region 1 with fail
  rw [zR]
  obtain ⟨wa, hwa⟩ : ∃ z, z = w.alloc (.cells (recCells {}) 38) := ⟨_, rfl⟩
  have HSA : Aside (wa.heap.size = w.heap.size + 1) := by rw [hwa]; simp [Aside]
  have HNa : Aside (Below w.heap.size w wa) := by rw [hwa]; exact new_alloc _ _
  have HBa : Aside (RecIn wa w.heap.size {}) := by rw [hwa]; exact RecIn.box w {}
  obtain ⟨R, hR⟩ : ∃ x, x = w.heap.size := ⟨_, rfl⟩
  rw [← hwa, ← hR]
  rw [← hR] at HBa
  have HRE := aside hR
  clear hwa hR
  obtain ⟨w0, hw0⟩ : ∃ z, z = wa.alloc (.cells (recCells { kind := 4 }) 38) := ⟨_, rfl⟩
  have HST : Aside ((Instr.storeAt 38 (.pointer (some ⟨wa.heap.size, 0, none⟩)) (.agg (recCells { kind := 4 }))).run Tryz.prog (wa.alloc (.cells (recCells {}) 38)) = .ok () w0) := by
    rw [Aside, hw0]
    exact storeAt_fresh wa 38 (recCells {}) _ (by rw [recCells_size]; kernel_rfl) rfl (recCells_one _ rfl rfl rfl)
  have HW0 := aside hw0
  clear hw0
  go_upto_region 2 with (first
    | (refine wpList_build_by rfl 38 _ rfl [(0, .int .i64 4)] rfl _ (build_k _ _) ?_)
    | (refine wpList_store_by rfl 38 _ _ rfl _ _ rfl rfl HST.out ?_)
    | fail)
  have hw0 := HW0.out
  have hR := HRE.out
  obtain ⟨L, hL⟩ : ∃ x, x = wa.heap.size := ⟨_, rfl⟩
  have HN0 : Aside (Below w.heap.size w w0) := by rw [hw0]; exact new_trans HNa.out (new_alloc _ _)
  have HR0 : Aside (RecIn w0 L { kind := 4 }) := by rw [hw0, hL]; exact RecIn.box _ _
  have HB0 : Aside (RecIn w0 R {}) := by rw [hw0]; exact HBa.out.new (new_alloc _ _)
  have hsa := HSA.out
  have hLb : L ≠ b := by omega
  have hRb : R ≠ b := by omega
  have hLR : L ≠ R := by omega
  have hRL : R ≠ L := by omega
  have hLw : w.heap.size ≤ L := by omega
  have hRw : w.heap.size ≤ R := by omega
  have HK0 : Aside (Keeps (· ≠ b) w w0) := keeps_of_new HN0.out _
  have HF0 : Aside (RfAt w0 b t S0) := H.out.on HN0.out
  rw [← hL]
  clear hw0 hR HRE hL hsa HSA HNa HBa HST HW0
  go_wp2_with fail
  refine (ref_take1 b t HTS.out S0 w0 HF0.out).mono ?_
  rintro e u1 ⟨rfl, hk, h1⟩
  obtain ⟨x1, hx⟩ : ∃ x, x = vl t S0 1 := ⟨_, rfl⟩
  obtain ⟨S1, hs⟩ : ∃ s, s = nx t S0 1 := ⟨_, rfl⟩
  rw [← hs] at h1
  rw [← hx]
  have hbd := vl_u8 t S0
  rw [← hx] at hbd
  have HX1 := aside hx
  have HS1 := aside hs
  have HK := aside (HK0.out.trans hk)
  have HF := aside h1
  have HR := aside (HR0.out.keeps hk hLb)
  have HB := aside (HB0.out.keeps hk hRb)
  have cf := HR.out.round
  have ff := HR.out.free 1
  clear hx hs hk h1 HF0 HK0 HR0 HB0
  go_wp2_with fail
  clear cf ff hbd
  obtain ⟨r1, hr1⟩ : ∃ r : RecV, r = { ({ kind := 4 } : RecV) with round := x1 } := ⟨_, rfl⟩
  have HV1 := aside hr1
  obtain ⟨w1, hw⟩ : ∃ z, z = u1.setCell ⟨L, 1, none⟩ (.int .i64 x1) := ⟨_, rfl⟩
  have HK1 : Aside (Keeps (· ≠ b) w w1) := by rw [hw]; exact keeps_set HK.out hLw _ _
  have HF1 : Aside (RfAt w1 b t S1) := by rw [hw]; exact HF.out.other hLb _ _
  have HR1 : Aside (RecIn w1 L r1) := by rw [hw, hr1]; exact HR.out.setRound _
  have HB1 : Aside (RecIn w1 R {}) := by rw [hw]; exact HB.out.other hRL _
  rw [← hw]
  clear hw HK HF HR HB hr1
  refine (ref_take1 b t HTS.out S1 w1 HF1.out).mono ?_
  rintro e u2 ⟨rfl, hk, h1⟩
  obtain ⟨x2, hx⟩ : ∃ x, x = vl t S1 1 := ⟨_, rfl⟩
  obtain ⟨S2, hs⟩ : ∃ s, s = nx t S1 1 := ⟨_, rfl⟩
  rw [← hs] at h1
  rw [← hx]
  have hbd := vl_u8 t S1
  rw [← hx] at hbd
  have HX2 := aside hx
  have HS2 := aside hs
  have HK := aside (HK1.out.trans hk)
  have HF := aside h1
  have HR := aside (HR1.out.keeps hk hLb)
  have HB := aside (HB1.out.keeps hk hRb)
  have cf := HR.out.carrier
  have ff := HR.out.free 3
  clear hx hs hk h1 HF1 HK1 HR1 HB1
  go_wp2_with fail
  clear cf ff hbd
  obtain ⟨r2, hr2⟩ : ∃ r : RecV, r = { r1 with carrier := x2 } := ⟨_, rfl⟩
  have HV2 := aside hr2
  obtain ⟨w2, hw⟩ : ∃ z, z = u2.setCell ⟨L, 3, none⟩ (.int .i64 x2) := ⟨_, rfl⟩
  have HK2 : Aside (Keeps (· ≠ b) w w2) := by rw [hw]; exact keeps_set HK.out hLw _ _
  have HF2 : Aside (RfAt w2 b t S2) := by rw [hw]; exact HF.out.other hLb _ _
  have HR2 : Aside (RecIn w2 L r2) := by rw [hw, hr2]; exact HR.out.setCarrier _
  have HB2 : Aside (RecIn w2 R {}) := by rw [hw]; exact HB.out.other hRL _
  rw [← hw]
  clear hw HK HF HR HB hr2
  refine (ref_num b t HTS.out S2 8 (by omega) (by omega) w2 HF2.out).mono ?_
  rintro e u3 ⟨rfl, hk, h1⟩
  obtain ⟨x3, hx⟩ : ∃ x, x = vl t S2 8 := ⟨_, rfl⟩
  obtain ⟨S3, hs⟩ : ∃ s, s = nx t S2 8 := ⟨_, rfl⟩
  rw [← hs] at h1
  rw [← hx]
  have HX3 := aside hx
  have HS3 := aside hs
  have HK := aside (HK2.out.trans hk)
  have HF := aside h1
  have HR := aside (HR2.out.keeps hk hLb)
  have HB := aside (HB2.out.keeps hk hRb)
  have cf := HR.out.bid
  have ff := HR.out.free 38
  clear hx hs hk h1 HF2 HK2 HR2 HB2
  go_wp2_with fail
  clear cf ff 
  obtain ⟨r3, hr3⟩ : ∃ r : RecV, r = { r2 with bid := x3 } := ⟨_, rfl⟩
  have HV3 := aside hr3
  obtain ⟨w3, hw⟩ : ∃ z, z = u3.setCell ⟨L, 38, none⟩ (.int .u64 x3) := ⟨_, rfl⟩
  have HK3 : Aside (Keeps (· ≠ b) w w3) := by rw [hw]; exact keeps_set HK.out hLw _ _
  have HF3 : Aside (RfAt w3 b t S3) := by rw [hw]; exact HF.out.other hLb _ _
  have HR3 : Aside (RecIn w3 L r3) := by rw [hw, hr3]; exact HR.out.setBid _
  have HB3 : Aside (RecIn w3 R {}) := by rw [hw]; exact HB.out.other hRL _
  rw [← hw]
  clear hw HK HF HR HB hr3
  refine (ref_num b t HTS.out S3 8 (by omega) (by omega) w3 HF3.out).mono ?_
  rintro e u4 ⟨rfl, hk, h1⟩
  obtain ⟨x4, hx⟩ : ∃ x, x = vl t S3 8 := ⟨_, rfl⟩
  obtain ⟨S4, hs⟩ : ∃ s, s = nx t S3 8 := ⟨_, rfl⟩
  rw [← hs] at h1
  rw [← hx]
  have HX4 := aside hx
  have HS4 := aside hs
  have HK := aside (HK3.out.trans hk)
  have HF := aside h1
  have HR := aside (HR3.out.keeps hk hLb)
  have HB := aside (HB3.out.keeps hk hRb)
  have cf := HR.out.nonce
  have ff := HR.out.free 39
  clear hx hs hk h1 HF3 HK3 HR3 HB3
  go_wp2_with fail
  clear cf ff 
  obtain ⟨r4, hr4⟩ : ∃ r : RecV, r = { r3 with nonce := x4 } := ⟨_, rfl⟩
  have HV4 := aside hr4
  obtain ⟨w4, hw⟩ : ∃ z, z = u4.setCell ⟨L, 39, none⟩ (.int .u64 x4) := ⟨_, rfl⟩
  have HK4 : Aside (Keeps (· ≠ b) w w4) := by rw [hw]; exact keeps_set HK.out hLw _ _
  have HF4 : Aside (RfAt w4 b t S4) := by rw [hw]; exact HF.out.other hLb _ _
  have HR4 : Aside (RecIn w4 L r4) := by rw [hw, hr4]; exact HR.out.setNonce _
  have HB4 : Aside (RecIn w4 R {}) := by rw [hw]; exact HB.out.other hRL _
  rw [← hw]
  clear hw HK HF HR HB hr4
  refine (ref_tick b t HTS.out S4 w4 HF4.out).mono ?_
  rintro e u5 ⟨rfl, hk, h1⟩
  obtain ⟨x5, hx⟩ : ∃ x, x = tickV (vl t S4 8) := ⟨_, rfl⟩
  obtain ⟨S5, hs⟩ : ∃ s, s = nx t S4 8 := ⟨_, rfl⟩
  rw [← hs] at h1
  rw [← hx]
  have HX5 := aside hx
  have HS5 := aside hs
  have HK := aside (HK4.out.trans hk)
  have HF := aside h1
  have HR := aside (HR4.out.keeps hk hLb)
  have HB := aside (HB4.out.keeps hk hRb)
  have cf := HR.out.tick
  have ff := HR.out.free 4
  clear hx hs hk h1 HF4 HK4 HR4 HB4
  obtain ⟨r5, hr5⟩ : ∃ r : RecV, r = { r4 with tick := x5 } := ⟨_, rfl⟩
  have HV5 := aside hr5
  obtain ⟨w5, hw⟩ : ∃ z, z = u5.setCell ⟨L, 4, none⟩ (.int .i64 x5) := ⟨_, rfl⟩
  have HK5 : Aside (Keeps (· ≠ b) w w5) := by rw [hw]; exact keeps_set HK.out hLw _ _
  have HF5 : Aside (RfAt w5 b t S5) := by rw [hw]; exact HF.out.other hLb _ _
  have HR5 : Aside (RecIn w5 L r5) := by rw [hw, hr5]; exact HR.out.setTick _
  have HB5 : Aside (RecIn w5 R {}) := by rw [hw]; exact HB.out.other hRL _
  have HW5 := aside hw
  clear hw hr5
  go_upto_region 32 with fail
  rw [← HW5.out]
  clear HK HF HR HB cf ff
  obtain ⟨b5, l5, o5, hto, hb1, hl1, ho1⟩ : ∃ bv lv ov, r5 = D.1.toV bv lv ov ∧ RowIF w.heap.size w5 bv D.1.barred ∧ RowLF w.heap.size w5 lv D.1.lots ∧ RowIF w.heap.size w5 ov D.1.owners := by
    rw [HD.out]
    exact ⟨_, _, _, by simp only [HV5.out, HV4.out, HV3.out, HV2.out, HV1.out, HX5.out, HS5.out, HX4.out, HS4.out, HX3.out, HS3.out, HX2.out, HS2.out, HX1.out, HS1.out]; simp only [revealW, RecD.toV, rep_getD], RowIF.nil _ _, RowLF.nil _ _, RowIF.nil _ _⟩
  have hrf : RecFrom w.heap.size w5 r5 D.1 := ⟨b5, l5, o5, hto, hb1, hl1, ho1⟩
  have hone := hrf.one
  have hi0 : (Tryz.prog.info? 38).map (·.size) = some (recCells r5).size := by rw [recCells_size]; kernel_rfl
  have HRF := aside hrf
  obtain ⟨wz, hwz⟩ : ∃ z, z = w5.setRow R (recCells r5) := ⟨_, rfl⟩
  have HRZ : Aside (RecIn wz R r5) := by rw [hwz]; exact HB5.out.setRow _
  have HE : Aside (BodyRf b t D w (.returned (.agg (recCells r5))) wz) := by
    refine ⟨_, rfl, ?_, ?_, ?_⟩
    · rw [hwz]
      exact HRF.out.keepsT (keeps_setRow (K := (· ≠ R)) w5 R _ (fun h => h rfl)) (fun k hb e => by subst e; exact row_no_rec hb HB5.out)
    · rw [hwz]
      exact keeps_behind HK5.out (keeps_setRow w5 R _ (fun h => by omega))
    · have hf := HF5.out.row hRb (recCells r5)
      rw [← hwz] at hf
      have hq : D.2 = S5 := by rw [HD.out]; simp only [HX5.out, HS5.out, HX4.out, HS4.out, HX3.out, HS3.out, HX2.out, HS2.out, HX1.out, HS1.out, revealW]
      rw [hq]
      exact hf
  have HWZ := aside hwz
  clear hrf hwz hto hb1 hl1 ho1
  go_wp2_with (first
    | (refine wpList_load_row rfl _ _ rfl L rfl _ (recCells r5) (0, 0) _ HR5.out Tryz.underlying38 rfl hi0 ?_)
    | (refine wpList_store_row rfl _ _ _ rfl R (recCells r5) rfl rfl 38 _ HB5.out hi0 rfl hone ?_; rw [← HWZ.out])
    | fail)
  refine bodyPost_ret (results_cell_row rfl _ _ R 38 (recCells r5) (0, 0) _ rfl HRZ.out Tryz.underlying38 rfl hi0) rfl ?_
  exact HE.out
end Go.Proofs.YtkpmcjfolncmmaaGreatDoor
namespace Go.Proofs.YtkpmcjfolncmmaaGreatDoor
open Go.RowKit
set_option maxHeartbeats 4000000 in
set_option maxRecDepth 100000 in
theorem body_close (b : Nat) (t : ByteArray) (hts : t.size ≤ 9223372036854775807) (S0 : Option Nat) (w : World) (h : RfAt w b t S0) :
    Calls Tryz.prog 35 #[.pointer (some ⟨b, 0, none⟩), .int .i64 5] w (BodyRf b t (closeW t S0) w) := by
  have H := aside h
  have hbl := h.lt
  have HTS := aside hts
  obtain ⟨D, hD⟩ : ∃ D, D = closeW t S0 := ⟨_, rfl⟩
  rw [← hD]
  have HD := aside hD
  clear h hts hD
  go_enter Tryz.func35, Tryz.ntmps35
  go_upto_region 1 with fail
  rw [zR]
  obtain ⟨wa, hwa⟩ : ∃ z, z = w.alloc (.cells (recCells {}) 38) := ⟨_, rfl⟩
  have HSA : Aside (wa.heap.size = w.heap.size + 1) := by rw [hwa]; simp [Aside]
  have HNa : Aside (Below w.heap.size w wa) := by rw [hwa]; exact new_alloc _ _
  have HBa : Aside (RecIn wa w.heap.size {}) := by rw [hwa]; exact RecIn.box w {}
  obtain ⟨R, hR⟩ : ∃ x, x = w.heap.size := ⟨_, rfl⟩
  rw [← hwa, ← hR]
  rw [← hR] at HBa
  have HRE := aside hR
  clear hwa hR
  obtain ⟨w0, hw0⟩ : ∃ z, z = wa.alloc (.cells (recCells { kind := 5 }) 38) := ⟨_, rfl⟩
  have HST : Aside ((Instr.storeAt 38 (.pointer (some ⟨wa.heap.size, 0, none⟩)) (.agg (recCells { kind := 5 }))).run Tryz.prog (wa.alloc (.cells (recCells {}) 38)) = .ok () w0) := by
    rw [Aside, hw0]
    exact storeAt_fresh wa 38 (recCells {}) _ (by rw [recCells_size]; kernel_rfl) rfl (recCells_one _ rfl rfl rfl)
  have HW0 := aside hw0
  clear hw0
  go_upto_region 2 with (first
    | (refine wpList_build_by rfl 38 _ rfl [(0, .int .i64 5)] rfl _ (build_k _ _) ?_)
    | (refine wpList_store_by rfl 38 _ _ rfl _ _ rfl rfl HST.out ?_)
    | fail)
  have hw0 := HW0.out
  have hR := HRE.out
  obtain ⟨L, hL⟩ : ∃ x, x = wa.heap.size := ⟨_, rfl⟩
  have HN0 : Aside (Below w.heap.size w w0) := by rw [hw0]; exact new_trans HNa.out (new_alloc _ _)
  have HR0 : Aside (RecIn w0 L { kind := 5 }) := by rw [hw0, hL]; exact RecIn.box _ _
  have HB0 : Aside (RecIn w0 R {}) := by rw [hw0]; exact HBa.out.new (new_alloc _ _)
  have hsa := HSA.out
  have hLb : L ≠ b := by omega
  have hRb : R ≠ b := by omega
  have hLR : L ≠ R := by omega
  have hRL : R ≠ L := by omega
  have hLw : w.heap.size ≤ L := by omega
  have hRw : w.heap.size ≤ R := by omega
  have HK0 : Aside (Keeps (· ≠ b) w w0) := keeps_of_new HN0.out _
  have HF0 : Aside (RfAt w0 b t S0) := H.out.on HN0.out
  rw [← hL]
  clear hw0 hR HRE hL hsa HSA HNa HBa HST HW0
  go_wp2_with fail
  refine (ref_take1 b t HTS.out S0 w0 HF0.out).mono ?_
  rintro e u1 ⟨rfl, hk, h1⟩
  obtain ⟨x1, hx⟩ : ∃ x, x = vl t S0 1 := ⟨_, rfl⟩
  obtain ⟨S1, hs⟩ : ∃ s, s = nx t S0 1 := ⟨_, rfl⟩
  rw [← hs] at h1
  rw [← hx]
  have hbd := vl_u8 t S0
  rw [← hx] at hbd
  have HX1 := aside hx
  have HS1 := aside hs
  have HK := aside (HK0.out.trans hk)
  have HF := aside h1
  have HR := aside (HR0.out.keeps hk hLb)
  have HB := aside (HB0.out.keeps hk hRb)
  have cf := HR.out.round
  have ff := HR.out.free 1
  clear hx hs hk h1 HF0 HK0 HR0 HB0
  go_wp2_with fail
  clear cf ff hbd
  obtain ⟨r1, hr1⟩ : ∃ r : RecV, r = { ({ kind := 5 } : RecV) with round := x1 } := ⟨_, rfl⟩
  have HV1 := aside hr1
  obtain ⟨w1, hw⟩ : ∃ z, z = u1.setCell ⟨L, 1, none⟩ (.int .i64 x1) := ⟨_, rfl⟩
  have HK1 : Aside (Keeps (· ≠ b) w w1) := by rw [hw]; exact keeps_set HK.out hLw _ _
  have HF1 : Aside (RfAt w1 b t S1) := by rw [hw]; exact HF.out.other hLb _ _
  have HR1 : Aside (RecIn w1 L r1) := by rw [hw, hr1]; exact HR.out.setRound _
  have HB1 : Aside (RecIn w1 R {}) := by rw [hw]; exact HB.out.other hRL _
  rw [← hw]
  clear hw HK HF HR HB hr1
  refine (ref_take1 b t HTS.out S1 w1 HF1.out).mono ?_
  rintro e u2 ⟨rfl, hk, h1⟩
  obtain ⟨x2, hx⟩ : ∃ x, x = vl t S1 1 := ⟨_, rfl⟩
  obtain ⟨S2, hs⟩ : ∃ s, s = nx t S1 1 := ⟨_, rfl⟩
  rw [← hs] at h1
  rw [← hx]
  have hbd := vl_u8 t S1
  rw [← hx] at hbd
  have HX2 := aside hx
  have HS2 := aside hs
  have HK := aside (HK1.out.trans hk)
  have HF := aside h1
  have HR := aside (HR1.out.keeps hk hLb)
  have HB := aside (HB1.out.keeps hk hRb)
  have cf := HR.out.state
  have ff := HR.out.free 40
  clear hx hs hk h1 HF1 HK1 HR1 HB1
  go_wp2_with fail
  clear cf ff hbd
  obtain ⟨r2, hr2⟩ : ∃ r : RecV, r = { r1 with state := x2 } := ⟨_, rfl⟩
  have HV2 := aside hr2
  obtain ⟨w2, hw⟩ : ∃ z, z = u2.setCell ⟨L, 40, none⟩ (.int .i64 x2) := ⟨_, rfl⟩
  have HK2 : Aside (Keeps (· ≠ b) w w2) := by rw [hw]; exact keeps_set HK.out hLw _ _
  have HF2 : Aside (RfAt w2 b t S2) := by rw [hw]; exact HF.out.other hLb _ _
  have HR2 : Aside (RecIn w2 L r2) := by rw [hw, hr2]; exact HR.out.setState _
  have HB2 : Aside (RecIn w2 R {}) := by rw [hw]; exact HB.out.other hRL _
  rw [← hw]
  clear hw HK HF HR HB hr2
  refine (ref_take1 b t HTS.out S2 w2 HF2.out).mono ?_
  rintro e u3 ⟨rfl, hk, h1⟩
  obtain ⟨x3, hx⟩ : ∃ x, x = vl t S2 1 := ⟨_, rfl⟩
  obtain ⟨S3, hs⟩ : ∃ s, s = nx t S2 1 := ⟨_, rfl⟩
  rw [← hs] at h1
  rw [← hx]
  have hbd := vl_u8 t S2
  rw [← hx] at hbd
  have hw1 : IntKind.i64.wrap (x3 - 1) = x3 - 1 := IntWalk.i64_in _ (by omega)
  have HX3 := aside hx
  have HS3 := aside hs
  have HK := aside (HK2.out.trans hk)
  have HF := aside h1
  have HR := aside (HR2.out.keeps hk hLb)
  have HB := aside (HB2.out.keeps hk hRb)
  have cf := HR.out.winner
  have ff := HR.out.free 41
  clear hx hs hk h1 HF2 HK2 HR2 HB2
  go_wp2_with fail
  clear cf ff hbd hw1
  obtain ⟨r3, hr3⟩ : ∃ r : RecV, r = { r2 with winner := x3 - 1 } := ⟨_, rfl⟩
  have HV3 := aside hr3
  obtain ⟨w3, hw⟩ : ∃ z, z = u3.setCell ⟨L, 41, none⟩ (.int .i64 (x3 - 1)) := ⟨_, rfl⟩
  have HK3 : Aside (Keeps (· ≠ b) w w3) := by rw [hw]; exact keeps_set HK.out hLw _ _
  have HF3 : Aside (RfAt w3 b t S3) := by rw [hw]; exact HF.out.other hLb _ _
  have HR3 : Aside (RecIn w3 L r3) := by rw [hw, hr3]; exact HR.out.setWinner _
  have HB3 : Aside (RecIn w3 R {}) := by rw [hw]; exact HB.out.other hRL _
  rw [← hw]
  clear hw HK HF HR HB hr3
  refine (ref_num b t HTS.out S3 8 (by omega) (by omega) w3 HF3.out).mono ?_
  rintro e u4 ⟨rfl, hk, h1⟩
  obtain ⟨x4, hx⟩ : ∃ x, x = vl t S3 8 := ⟨_, rfl⟩
  obtain ⟨S4, hs⟩ : ∃ s, s = nx t S3 8 := ⟨_, rfl⟩
  rw [← hs] at h1
  rw [← hx]
  have HX4 := aside hx
  have HS4 := aside hs
  have HK := aside (HK3.out.trans hk)
  have HF := aside h1
  have HR := aside (HR3.out.keeps hk hLb)
  have HB := aside (HB3.out.keeps hk hRb)
  have cf := HR.out.price
  have ff := HR.out.free 42
  clear hx hs hk h1 HF3 HK3 HR3 HB3
  go_wp2_with fail
  clear cf ff 
  obtain ⟨r4, hr4⟩ : ∃ r : RecV, r = { r3 with price := x4 } := ⟨_, rfl⟩
  have HV4 := aside hr4
  obtain ⟨w4, hw⟩ : ∃ z, z = u4.setCell ⟨L, 42, none⟩ (.int .u64 x4) := ⟨_, rfl⟩
  have HK4 : Aside (Keeps (· ≠ b) w w4) := by rw [hw]; exact keeps_set HK.out hLw _ _
  have HF4 : Aside (RfAt w4 b t S4) := by rw [hw]; exact HF.out.other hLb _ _
  have HR4 : Aside (RecIn w4 L r4) := by rw [hw, hr4]; exact HR.out.setPrice _
  have HB4 : Aside (RecIn w4 R {}) := by rw [hw]; exact HB.out.other hRL _
  rw [← hw]
  clear hw HK HF HR HB hr4
  refine (ref_tick b t HTS.out S4 w4 HF4.out).mono ?_
  rintro e u5 ⟨rfl, hk, h1⟩
  obtain ⟨x5, hx⟩ : ∃ x, x = tickV (vl t S4 8) := ⟨_, rfl⟩
  obtain ⟨S5, hs⟩ : ∃ s, s = nx t S4 8 := ⟨_, rfl⟩
  rw [← hs] at h1
  rw [← hx]
  have HX5 := aside hx
  have HS5 := aside hs
  have HK := aside (HK4.out.trans hk)
  have HF := aside h1
  have HR := aside (HR4.out.keeps hk hLb)
  have HB := aside (HB4.out.keeps hk hRb)
  have cf := HR.out.tick
  have ff := HR.out.free 4
  clear hx hs hk h1 HF4 HK4 HR4 HB4
  obtain ⟨r5, hr5⟩ : ∃ r : RecV, r = { r4 with tick := x5 } := ⟨_, rfl⟩
  have HV5 := aside hr5
  obtain ⟨w5, hw⟩ : ∃ z, z = u5.setCell ⟨L, 4, none⟩ (.int .i64 x5) := ⟨_, rfl⟩
  have HK5 : Aside (Keeps (· ≠ b) w w5) := by rw [hw]; exact keeps_set HK.out hLw _ _
  have HF5 : Aside (RfAt w5 b t S5) := by rw [hw]; exact HF.out.other hLb _ _
  have HR5 : Aside (RecIn w5 L r5) := by rw [hw, hr5]; exact HR.out.setTick _
  have HB5 : Aside (RecIn w5 R {}) := by rw [hw]; exact HB.out.other hRL _
  have HW5 := aside hw
  clear hw hr5
  go_upto_region 32 with fail
  rw [← HW5.out]
  clear HK HF HR HB cf ff
  obtain ⟨b5, l5, o5, hto, hb1, hl1, ho1⟩ : ∃ bv lv ov, r5 = D.1.toV bv lv ov ∧ RowIF w.heap.size w5 bv D.1.barred ∧ RowLF w.heap.size w5 lv D.1.lots ∧ RowIF w.heap.size w5 ov D.1.owners := by
    rw [HD.out]
    exact ⟨_, _, _, by simp only [HV5.out, HV4.out, HV3.out, HV2.out, HV1.out, HX5.out, HS5.out, HX4.out, HS4.out, HX3.out, HS3.out, HX2.out, HS2.out, HX1.out, HS1.out]; simp only [closeW, RecD.toV, rep_getD], RowIF.nil _ _, RowLF.nil _ _, RowIF.nil _ _⟩
  have hrf : RecFrom w.heap.size w5 r5 D.1 := ⟨b5, l5, o5, hto, hb1, hl1, ho1⟩
  have hone := hrf.one
  have hi0 : (Tryz.prog.info? 38).map (·.size) = some (recCells r5).size := by rw [recCells_size]; kernel_rfl
  have HRF := aside hrf
  obtain ⟨wz, hwz⟩ : ∃ z, z = w5.setRow R (recCells r5) := ⟨_, rfl⟩
  have HRZ : Aside (RecIn wz R r5) := by rw [hwz]; exact HB5.out.setRow _
  have HE : Aside (BodyRf b t D w (.returned (.agg (recCells r5))) wz) := by
    refine ⟨_, rfl, ?_, ?_, ?_⟩
    · rw [hwz]
      exact HRF.out.keepsT (keeps_setRow (K := (· ≠ R)) w5 R _ (fun h => h rfl)) (fun k hb e => by subst e; exact row_no_rec hb HB5.out)
    · rw [hwz]
      exact keeps_behind HK5.out (keeps_setRow w5 R _ (fun h => by omega))
    · have hf := HF5.out.row hRb (recCells r5)
      rw [← hwz] at hf
      have hq : D.2 = S5 := by rw [HD.out]; simp only [HX5.out, HS5.out, HX4.out, HS4.out, HX3.out, HS3.out, HX2.out, HS2.out, HX1.out, HS1.out, closeW]
      rw [hq]
      exact hf
  have HWZ := aside hwz
  clear hrf hwz hto hb1 hl1 ho1
  go_wp2_with (first
    | (refine wpList_load_row rfl _ _ rfl L rfl _ (recCells r5) (0, 0) _ HR5.out Tryz.underlying38 rfl hi0 ?_)
    | (refine wpList_store_row rfl _ _ _ rfl R (recCells r5) rfl rfl 38 _ HB5.out hi0 rfl hone ?_; rw [← HWZ.out])
    | fail)
  refine bodyPost_ret (results_cell_row rfl _ _ R 38 (recCells r5) (0, 0) _ rfl HRZ.out Tryz.underlying38 rfl hi0) rfl ?_
  exact HE.out
end Go.Proofs.YtkpmcjfolncmmaaGreatDoor
namespace Go.Proofs.YtkpmcjfolncmmaaGreatDoor
open Go.RowKit
set_option maxHeartbeats 4000000 in
set_option maxRecDepth 100000 in
theorem body_end (b : Nat) (t : ByteArray) (hts : t.size ≤ 9223372036854775807) (S0 : Option Nat) (w : World) (h : RfAt w b t S0) :
    Calls Tryz.prog 35 #[.pointer (some ⟨b, 0, none⟩), .int .i64 6] w (BodyRf b t (endW t S0) w) := by
  have H := aside h
  have hbl := h.lt
  have HTS := aside hts
  obtain ⟨D, hD⟩ : ∃ D, D = endW t S0 := ⟨_, rfl⟩
  rw [← hD]
  have HD := aside hD
  clear h hts hD
  go_enter Tryz.func35, Tryz.ntmps35
  go_upto_region 1 with fail
  rw [zR]
  obtain ⟨wa, hwa⟩ : ∃ z, z = w.alloc (.cells (recCells {}) 38) := ⟨_, rfl⟩
  have HSA : Aside (wa.heap.size = w.heap.size + 1) := by rw [hwa]; simp [Aside]
  have HNa : Aside (Below w.heap.size w wa) := by rw [hwa]; exact new_alloc _ _
  have HBa : Aside (RecIn wa w.heap.size {}) := by rw [hwa]; exact RecIn.box w {}
  obtain ⟨R, hR⟩ : ∃ x, x = w.heap.size := ⟨_, rfl⟩
  rw [← hwa, ← hR]
  rw [← hR] at HBa
  have HRE := aside hR
  clear hwa hR
  obtain ⟨w0, hw0⟩ : ∃ z, z = wa.alloc (.cells (recCells { kind := 6 }) 38) := ⟨_, rfl⟩
  have HST : Aside ((Instr.storeAt 38 (.pointer (some ⟨wa.heap.size, 0, none⟩)) (.agg (recCells { kind := 6 }))).run Tryz.prog (wa.alloc (.cells (recCells {}) 38)) = .ok () w0) := by
    rw [Aside, hw0]
    exact storeAt_fresh wa 38 (recCells {}) _ (by rw [recCells_size]; kernel_rfl) rfl (recCells_one _ rfl rfl rfl)
  have HW0 := aside hw0
  clear hw0
  go_upto_region 2 with (first
    | (refine wpList_build_by rfl 38 _ rfl [(0, .int .i64 6)] rfl _ (build_k _ _) ?_)
    | (refine wpList_store_by rfl 38 _ _ rfl _ _ rfl rfl HST.out ?_)
    | fail)
  have hw0 := HW0.out
  have hR := HRE.out
  obtain ⟨L, hL⟩ : ∃ x, x = wa.heap.size := ⟨_, rfl⟩
  have HN0 : Aside (Below w.heap.size w w0) := by rw [hw0]; exact new_trans HNa.out (new_alloc _ _)
  have HR0 : Aside (RecIn w0 L { kind := 6 }) := by rw [hw0, hL]; exact RecIn.box _ _
  have HB0 : Aside (RecIn w0 R {}) := by rw [hw0]; exact HBa.out.new (new_alloc _ _)
  have hsa := HSA.out
  have hLb : L ≠ b := by omega
  have hRb : R ≠ b := by omega
  have hLR : L ≠ R := by omega
  have hRL : R ≠ L := by omega
  have hLw : w.heap.size ≤ L := by omega
  have hRw : w.heap.size ≤ R := by omega
  have HK0 : Aside (Keeps (· ≠ b) w w0) := keeps_of_new HN0.out _
  have HF0 : Aside (RfAt w0 b t S0) := H.out.on HN0.out
  rw [← hL]
  clear hw0 hR HRE hL hsa HSA HNa HBa HST HW0
  go_wp2_with fail
  refine (ref_tick b t HTS.out S0 w0 HF0.out).mono ?_
  rintro e u1 ⟨rfl, hk, h1⟩
  obtain ⟨x1, hx⟩ : ∃ x, x = tickV (vl t S0 8) := ⟨_, rfl⟩
  obtain ⟨S1, hs⟩ : ∃ s, s = nx t S0 8 := ⟨_, rfl⟩
  rw [← hs] at h1
  rw [← hx]
  have HX1 := aside hx
  have HS1 := aside hs
  have HK := aside (HK0.out.trans hk)
  have HF := aside h1
  have HR := aside (HR0.out.keeps hk hLb)
  have HB := aside (HB0.out.keeps hk hRb)
  have cf := HR.out.tick
  have ff := HR.out.free 4
  clear hx hs hk h1 HF0 HK0 HR0 HB0
  obtain ⟨r1, hr1⟩ : ∃ r : RecV, r = { ({ kind := 6 } : RecV) with tick := x1 } := ⟨_, rfl⟩
  have HV1 := aside hr1
  obtain ⟨w1, hw⟩ : ∃ z, z = u1.setCell ⟨L, 4, none⟩ (.int .i64 x1) := ⟨_, rfl⟩
  have HK1 : Aside (Keeps (· ≠ b) w w1) := by rw [hw]; exact keeps_set HK.out hLw _ _
  have HF1 : Aside (RfAt w1 b t S1) := by rw [hw]; exact HF.out.other hLb _ _
  have HR1 : Aside (RecIn w1 L r1) := by rw [hw, hr1]; exact HR.out.setTick _
  have HB1 : Aside (RecIn w1 R {}) := by rw [hw]; exact HB.out.other hRL _
  have HW1 := aside hw
  clear hw hr1
  go_upto_region 32 with fail
  rw [← HW1.out]
  clear HK HF HR HB cf ff
  obtain ⟨b1, l1, o1, hto, hb1, hl1, ho1⟩ : ∃ bv lv ov, r1 = D.1.toV bv lv ov ∧ RowIF w.heap.size w1 bv D.1.barred ∧ RowLF w.heap.size w1 lv D.1.lots ∧ RowIF w.heap.size w1 ov D.1.owners := by
    rw [HD.out]
    exact ⟨_, _, _, by simp only [HV1.out, HX1.out, HS1.out]; simp only [endW, RecD.toV, rep_getD], RowIF.nil _ _, RowLF.nil _ _, RowIF.nil _ _⟩
  have hrf : RecFrom w.heap.size w1 r1 D.1 := ⟨b1, l1, o1, hto, hb1, hl1, ho1⟩
  have hone := hrf.one
  have hi0 : (Tryz.prog.info? 38).map (·.size) = some (recCells r1).size := by rw [recCells_size]; kernel_rfl
  have HRF := aside hrf
  obtain ⟨wz, hwz⟩ : ∃ z, z = w1.setRow R (recCells r1) := ⟨_, rfl⟩
  have HRZ : Aside (RecIn wz R r1) := by rw [hwz]; exact HB1.out.setRow _
  have HE : Aside (BodyRf b t D w (.returned (.agg (recCells r1))) wz) := by
    refine ⟨_, rfl, ?_, ?_, ?_⟩
    · rw [hwz]
      exact HRF.out.keepsT (keeps_setRow (K := (· ≠ R)) w1 R _ (fun h => h rfl)) (fun k hb e => by subst e; exact row_no_rec hb HB1.out)
    · rw [hwz]
      exact keeps_behind HK1.out (keeps_setRow w1 R _ (fun h => by omega))
    · have hf := HF1.out.row hRb (recCells r1)
      rw [← hwz] at hf
      have hq : D.2 = S1 := by rw [HD.out]; simp only [HX1.out, HS1.out, endW]
      rw [hq]
      exact hf
  have HWZ := aside hwz
  clear hrf hwz hto hb1 hl1 ho1
  go_wp2_with (first
    | (refine wpList_load_row rfl _ _ rfl L rfl _ (recCells r1) (0, 0) _ HR1.out Tryz.underlying38 rfl hi0 ?_)
    | (refine wpList_store_row rfl _ _ _ rfl R (recCells r1) rfl rfl 38 _ HB1.out hi0 rfl hone ?_; rw [← HWZ.out])
    | fail)
  refine bodyPost_ret (results_cell_row rfl _ _ R 38 (recCells r1) (0, 0) _ rfl HRZ.out Tryz.underlying38 rfl hi0) rfl ?_
  exact HE.out
end Go.Proofs.YtkpmcjfolncmmaaGreatDoor
namespace Go.Proofs.YtkpmcjfolncmmaaGreatDoor
open Go.RowKit
theorem body_any (b : Nat) (t : ByteArray) (hts : t.size ≤ 9223372036854775807) (k : Int) (hk : 1 ≤ k ∧ k ≤ 6) (S0 : Option Nat) (w : World) (h : RfAt w b t S0) :
    Calls Tryz.prog 35 #[.pointer (some ⟨b, 0, none⟩), .int .i64 k] w (BodyRf b t (bodyW t k S0) w) := by
  rcases kinds6 hk with rfl | rfl | rfl | rfl | rfl | rfl
  · exact body_scene b t hts S0 w h
  · exact body_open b t hts S0 w h
  · exact body_commit b t hts S0 w h
  · exact body_reveal b t hts S0 w h
  · exact body_close b t hts S0 w h
  · exact body_end b t hts S0 w h
theorem intsN_len (t : ByteArray) (st : Option Nat) : (intsN t st).1.length ≤ 255 := by
  have h := intsR_len t (vl t st 1).toNat (nx t st 1)
  have := vl_u8 t st
  rw [intsN]
  omega
theorem lotsN_len (t : ByteArray) (st : Option Nat) : (lotsN t st).1.length ≤ 255 := by
  have h := lotsR_len t (vl t st 1).toNat (nx t st 1)
  have := vl_u8 t st
  rw [lotsN]
  omega
theorem dgL_len (t : ByteArray) (st : Option Nat) (k : Nat) : (dgL t st k).length = k := by rw [dgL, List.length_map, List.length_range]
theorem bodyW_ok (t : ByteArray) (k : Int) (hk : 1 ≤ k ∧ k ≤ 6) (S0 : Option Nat) : (bodyW t k S0).1.kind = k ∧ (bodyW t k S0).1.dig.length = 32 ∧ (bodyW t k S0).1.barred.length + (bodyW t k S0).1.lots.length + (bodyW t k S0).1.owners.length ≤ 1099511627776 := by
  rcases kinds6 hk with rfl | rfl | rfl | rfl | rfl | rfl
  · refine ⟨rfl, rfl, ?_⟩
    have h1 := lotsN_len t (sceneW4 t S0)
    have h2 := intsN_len t (lotsN t (sceneW4 t S0)).2
    show 0 + (lotsN t (sceneW4 t S0)).1.length + (intsN t (lotsN t (sceneW4 t S0)).2).1.length ≤ 1099511627776
    omega
  · refine ⟨rfl, rfl, ?_⟩
    have h2 := intsN_len t (nx t (nx t (nx t S0 1) 1) 8)
    show (intsN t (nx t (nx t (nx t S0 1) 1) 8)).1.length + 0 + 0 ≤ 1099511627776
    omega
  · exact ⟨rfl, dgL_len _ _ _, Nat.zero_le _⟩
  · exact ⟨rfl, rfl, Nat.zero_le _⟩
  · exact ⟨rfl, rfl, Nat.zero_le _⟩
  · exact ⟨rfl, rfl, Nat.zero_le _⟩
end Go.Proofs.YtkpmcjfolncmmaaGreatDoor
