/- consignref30.Draft: its data, what it reads as; small laws. -/
import Derived.Test.YtkpmcjfolncmmaaGreatDoorSPar1
import Derived.Test.YtkpmcjfolncmmaaGreatDoorSRec2
import Derived.Test.YtkpmcjfolncmmaaGreatDoorSOwnG
import Derived.Test.YtkpmcjfolncmmaaGreatDoorSLaw1
set_option linter.all false
namespace Go.Proofs.YtkpmcjfolncmmaaGreatDoor
open Go.RowKit
structure DrV where
  kind : Int
  n0 : Int
  n1 : Int
  n2 : Int
  n3 : Int
  n4 : Int
  g0 : Int
  g1 : Int
  g2 : Int
  ba : Option Addr
  nb : Nat
  cb : Nat
def drCells (d : DrV) : Array Value := #[.int .u8 d.kind, .int .u16 d.n0, .int .u16 d.n1, .int .u16 d.n2, .int .u16 d.n3, .int .u16 d.n4, .int .u64 d.g0, .int .u64 d.g1, .int .u64 d.g2, .slice d.ba d.nb d.cb]
structure DrAt (w : World) (d : DrV) : Prop where
  kind : 0 ≤ d.kind ∧ d.kind ≤ 255
  n0 : 0 ≤ d.n0 ∧ d.n0 ≤ 65535
  n1 : 0 ≤ d.n1 ∧ d.n1 ≤ 65535
  n2 : 0 ≤ d.n2 ∧ d.n2 ≤ 65535
  n3 : 0 ≤ d.n3 ∧ d.n3 ≤ 65535
  n4 : 0 ≤ d.n4 ∧ d.n4 ≤ 65535
  g0 : 0 ≤ d.g0 ∧ d.g0 ≤ 18446744073709551615
  g1 : 0 ≤ d.g1 ∧ d.g1 ≤ 18446744073709551615
  g2 : 0 ≤ d.g2 ∧ d.g2 ≤ 18446744073709551615
  cap : d.nb ≤ d.cb
  len : d.nb ≤ 9223372036854775807
  bytes : ∃ f : Nat → Int, (∀ j, 0 ≤ f j ∧ f j ≤ 255) ∧ (0 < d.nb → ∃ lb lo, d.ba = some ⟨lb, lo, none⟩ ∧ lb < w.heap.size ∧ ∀ j, j < d.nb → w.cell? ⟨lb, lo + j, none⟩ = some (.int .u8 (f j)))
theorem DrAt.on {w w' : World} {d : DrV} (h : DrAt w d) (hb : Below w.heap.size w w') : DrAt w' d := by
  obtain ⟨f, h1, h2⟩ := h.bytes
  refine { h with bytes := ⟨f, h1, fun h0 => ?_⟩ }
  obtain ⟨lb, lo, e, hl, hj⟩ := h2 h0
  exact ⟨lb, lo, e, Nat.lt_of_lt_of_le hl hb.size, fun j h1 => (hb.cell (p := ⟨lb, lo + j, none⟩) hl).trans (hj j h1)⟩
theorem build_kt (k t : Int) (w : World) : (Instr.build 38 #[(0, .int .i64 k), (4, .int .i64 t)]).run Tryz.prog w = .ok (.agg (recCells { kind := k, tick := t })) w := by kernel_rfl
theorem dr_results {w : World} {R : Nat} {r : RecV} (h : RecIn w R r) (tmps : Array Value) (h2 : tmps.getD 2 undef = .pointer (some ⟨R, 0, none⟩)) :
    (results Tryz.f7 tmps).run Tryz.prog w = .ok (.agg (recCells r)) w := by
  have h2' : tmps[2]?.getD undef = .pointer (some ⟨R, 0, none⟩) := by simpa using h2
  have hl := run_loadVar_row (P := Tryz.prog) w R 38 38 (recCells r) (0, 0) _ h Tryz.underlying38 rfl (by rw [recCells_size]; kernel_rfl)
  simp [results, Tryz.results7, asAddr, h2', hl]
theorem Bs.rep (n : Nat) : Bs (List.replicate n 0) := fun x hx => by rw [List.eq_of_mem_replicate hx]; omega
theorem withinB_true {x a b : Int} (h1 : a ≤ x) (h2 : x ≤ b) : withinB x a b = true := by simp [withinB, h1, h2]
theorem may6 (t : Int) (h : 0 ≤ t) : mayB { kind := 6, tick := t } = true := by
  simp [mayB, rightB, restOf, emptyD, baseB, withinB, h]
theorem ok6 (t : Int) (h : 0 ≤ t ∧ t ≤ 9223372036854775807) : RecD.ok { kind := 6, tick := t } := by
  refine ⟨rfl, Bs.rep 32, ?_, ?_, ?_, ?_, ?_, ?_, ?_, ?_, ?_, ?_, ?_, ?_⟩ <;> simp <;> omega
theorem may4 (t r c bd g : Int) (ht : 0 ≤ t ∧ t ≤ 9223372036854775807) (hr : 0 ≤ r ∧ r ≤ 15) (hc : 0 ≤ c ∧ c ≤ 7) (hb : 0 ≤ bd ∧ bd ≤ 4294967296) (hg : 0 ≤ g ∧ g ≤ 18446744073709551615) :
    mayB { kind := 4, round := r, carrier := c, tick := t, bid := bd, nonce := g } = true ∧ RecD.ok { kind := 4, round := r, carrier := c, tick := t, bid := bd, nonce := g } := by
  constructor
  · simp [mayB, rightB, restOf, emptyD, baseB, withinB, ht.1, hr, hc, hb]
  · refine ⟨rfl, Bs.rep 32, ?_, ?_, ?_, ?_, ?_, ?_, ?_, ?_, ?_, ?_, ?_, ?_⟩ <;> simp <;> omega
theorem set_upD (l : List Int) (k : Nat) (z : Int) (hk : k < l.length) : (fun j => (l.set k z).getD j 0) = upD (fun j => l.getD j 0) k z := by
  funext j
  unfold upD
  by_cases h : j = k
  · subst h
    rw [if_pos rfl, List.getD_eq_getElem?_getD, List.getElem?_set_self hk]; rfl
  · rw [if_neg h, List.getD_eq_getElem?_getD, List.getElem?_set_ne (Ne.symm h), ← List.getD_eq_getElem?_getD]
theorem Bs.set {l : List Int} (h : Bs l) (k : Nat) (z : Int) (hz : 0 ≤ z ∧ z ≤ 255) : Bs (l.set k z) := fun x hx => by
  rcases List.mem_or_eq_of_mem_set hx with hx | rfl
  · exact h x hx
  · exact hz
theorem may3 (t r c : Int) (l : List Int) (ht : 0 ≤ t ∧ t ≤ 9223372036854775807) (hr : 0 ≤ r ∧ r ≤ 15) (hc : 0 ≤ c ∧ c ≤ 7) (hl : l.length = 32 ∧ Bs l) :
    mayB { kind := 3, round := r, carrier := c, tick := t, dig := l } = true ∧ RecD.ok { kind := 3, round := r, carrier := c, tick := t, dig := l } := by
  constructor
  · simp [mayB, rightB, restOf, emptyD, baseB, withinB, ht.1, hr, hc]
  · refine ⟨hl.1, hl.2, ?_, ?_, ?_, ?_, ?_, ?_, ?_, ?_, ?_, ?_, ?_, ?_⟩ <;> simp <;> omega
theorem may5 (t r s x p : Int) (ht : 0 ≤ t ∧ t ≤ 9223372036854775807) (hr : 0 ≤ r ∧ r ≤ 15) (h : (s = 3 ∧ x = -1 ∧ p = 0) ∨ ((s = 2 ∨ s = 4) ∧ (0 ≤ x ∧ x ≤ 7) ∧ (0 ≤ p ∧ p ≤ 16777216))) :
    mayB { kind := 5, round := r, tick := t, state := s, winner := x, price := p } = true ∧ RecD.ok { kind := 5, round := r, tick := t, state := s, winner := x, price := p } := by
  constructor
  · rcases h with ⟨rfl, rfl, rfl⟩ | ⟨rfl | rfl, h1, h2⟩
    · simp [mayB, rightB, restOf, emptyD, baseB, withinB, toldB, ht.1, hr]
    · simp [mayB, rightB, restOf, emptyD, baseB, withinB, toldB, ht.1, hr, h1, h2]
    · simp [mayB, rightB, restOf, emptyD, baseB, withinB, toldB, ht.1, hr, h1, h2]
  · refine ⟨rfl, Bs.rep 32, ?_, ?_, ?_, ?_, ?_, ?_, ?_, ?_, ?_, ?_, ?_, ?_⟩ <;> simp <;> omega
def RiseTo (k : Nat) (xs : List Int) : Prop := (∀ j, j < xs.length → 0 ≤ xs.getD j 0 ∧ xs.getD j 0 < k) ∧ ∀ j, j + 1 < xs.length → xs.getD j 0 < xs.getD (j + 1) 0
theorem RiseTo.up {k : Nat} {xs : List Int} (h : RiseTo k xs) : RiseTo (k + 1) xs := ⟨fun j hj => by have := h.1 j hj; omega, h.2⟩
theorem RiseTo.snoc {k : Nat} {xs : List Int} (h : RiseTo k xs) : RiseTo (k + 1) (xs ++ [(k : Int)]) := by
  have ha : ∀ j, j < xs.length → (xs ++ [(k : Int)]).getD j 0 = xs.getD j 0 := fun j hj => by
    rw [List.getD_eq_getElem?_getD, List.getElem?_append_left hj, ← List.getD_eq_getElem?_getD]
  have hb : (xs ++ [(k : Int)]).getD xs.length 0 = k := by
    rw [List.getD_eq_getElem?_getD, List.getElem?_append_right (Nat.le_refl _)]; simp
  have hl : (xs ++ [(k : Int)]).length = xs.length + 1 := by simp
  constructor
  · intro j hj
    rw [hl] at hj
    by_cases h1 : j < xs.length
    · rw [ha j h1]; have := h.1 j h1; omega
    · rw [show j = xs.length by omega, hb]; omega
  · intro j hj
    rw [hl] at hj
    by_cases h1 : j + 1 < xs.length
    · rw [ha j (by omega), ha (j + 1) h1]; exact h.2 j h1
    · rw [show j + 1 = xs.length by omega, hb, ha j (by omega)]
      exact (h.1 j (by omega)).2
theorem may2 (t r l : Int) (xs : List Int) (ht : 0 ≤ t ∧ t ≤ 9223372036854775807) (hr : 0 ≤ r ∧ r ≤ 15) (hl : 0 ≤ l ∧ l ≤ 15) (hx : RiseTo 8 xs) (hn : xs.length ≤ 8) :
    mayB { kind := 2, round := r, lot := l, tick := t, barred := xs } = true ∧ RecD.ok { kind := 2, round := r, lot := l, tick := t, barred := xs } := by
  have ha : allTo (riseAt xs) xs.length = true := by
    rw [allTo_iff]
    intro k hk
    have h1 := hx.1 k hk
    rw [riseAt, withinB_true h1.1 (by omega), Bool.true_and]
    by_cases h0 : k = 0
    · rw [decide_eq_true h0]; rfl
    · have h2 := hx.2 (k - 1) (by omega)
      rw [show k - 1 + 1 = k by omega] at h2
      rw [decide_eq_true h2, Bool.or_true]
  constructor
  · simp [mayB, rightB, restOf, emptyD, baseB, ha, withinB_true hr.1 hr.2, withinB_true hl.1 hl.2, ht.1]
  · refine ⟨rfl, Bs.rep 32, ?_, ?_, ?_, ?_, ?_, ?_, ?_, ?_, ?_, ?_, ?_, ?_⟩ <;> simp <;> omega
theorem and24 (n : Int) : 0 ≤ bits .and .i64 n 16777215 ∧ bits .and .i64 n 16777215 ≤ 16777215 := by
  have e : bits .and .i64 n 16777215 = IntKind.i64.wrap ((BitVec.ofInt 64 n &&& BitVec.ofInt 64 16777215).toNat : Int) := rfl
  have h : (BitVec.ofInt 64 n &&& BitVec.ofInt 64 16777215).toNat ≤ 16777215 := by
    rw [BitVec.toNat_and]
    exact Nat.and_le_right
  rw [e, IntWalk.i64_in _ (by omega)]
  omega
def LotsIn (xs : List (Int × Int)) : Prop := ∀ x ∈ xs, (0 ≤ x.1 ∧ x.1 ≤ 63) ∧ 0 ≤ x.2 ∧ x.2 ≤ 16777216
def DrPost (w : World) (e : Ending) (w' : World) : Prop :=
  ∃ rv d, e = .returned (.agg (recCells rv)) ∧ RecFrom w.heap.size w' rv d ∧ mayB d = true ∧ d.ok ∧ Below w.heap.size w w'
structure DrIn (w wr : World) (D R N L : Nat) (d : DrV) (r : RecV) : Prop where
  hd : wr.heap[D]? = some (.cells (drCells d) 28 (0, 0))
  hn : wr.heap[N]? = some (.cells #[.int .u16 d.n0, .int .u16 d.n1, .int .u16 d.n2, .int .u16 d.n3, .int .u16 d.n4] 23 (0, 0))
  hr : RecIn wr R {}
  hl : RecIn wr L r
  old : Below w.heap.size w wr
  at_ : DrAt w d
  nD : w.heap.size ≤ D
  nR : w.heap.size ≤ R
  nN : w.heap.size ≤ N
  nL : w.heap.size ≤ L
  dL : D ≠ L
  rL : R ≠ L
  nNL : N ≠ L
theorem DrIn.keeps {w wr w' : World} {D R N L : Nat} {d : DrV} {r r' : RecV} (h : DrIn w wr D R N L d r) (hk : Keeps (· ≠ L) wr w') (hl : RecIn w' L r') : DrIn w w' D R N L d r' :=
  { h with hd := whole_keeps h.hd hk h.dL, hn := whole_keeps h.hn hk h.nNL, hr := h.hr.keeps hk h.rL, hl := hl, old := new_of_keeps h.old hk h.nL }
theorem DrIn.set {w wr : World} {D R N L : Nat} {d : DrV} {r r' : RecV} (h : DrIn w wr D R N L d r) (j : Nat) (v : Value) (hl : RecIn (wr.setCell ⟨L, j, none⟩ v) L r') : DrIn w (wr.setCell ⟨L, j, none⟩ v) D R N L d r' :=
  h.keeps ((Keeps.refl _ _).setCell (p := ⟨L, j, none⟩) (.inr (fun h => h rfl)) v) hl
theorem DrIn.new {w wr w' : World} {D R N L : Nat} {d : DrV} {r : RecV} (h : DrIn w wr D R N L d r) (hb : Below wr.heap.size wr w') : DrIn w w' D R N L d r :=
  h.keeps (keeps_of_new hb _) (h.hl.new hb)
theorem DrIn.drew {w wr : World} {D R N L : Nat} {d : DrV} {r : RecV} (h : DrIn w wr D R N L d r) : DrIn w wr.drew D R N L d r := h.new (new_drew _)
theorem DrIn.c0 {w wr : World} {D R N L : Nat} {d : DrV} {r : RecV} (h : DrIn w wr D R N L d r) : wr.cell? ⟨D, 0, none⟩ = some (.int .u8 d.kind) := cell_whole h.hd 0
theorem DrIn.c1 {w wr : World} {D R N L : Nat} {d : DrV} {r : RecV} (h : DrIn w wr D R N L d r) : wr.cell? ⟨D, 1, none⟩ = some (.int .u16 d.n0) := cell_whole h.hd 1
theorem DrIn.c2 {w wr : World} {D R N L : Nat} {d : DrV} {r : RecV} (h : DrIn w wr D R N L d r) : wr.cell? ⟨D, 2, none⟩ = some (.int .u16 d.n1) := cell_whole h.hd 2
theorem DrIn.c3 {w wr : World} {D R N L : Nat} {d : DrV} {r : RecV} (h : DrIn w wr D R N L d r) : wr.cell? ⟨D, 3, none⟩ = some (.int .u16 d.n2) := cell_whole h.hd 3
theorem DrIn.c4 {w wr : World} {D R N L : Nat} {d : DrV} {r : RecV} (h : DrIn w wr D R N L d r) : wr.cell? ⟨D, 4, none⟩ = some (.int .u16 d.n3) := cell_whole h.hd 4
theorem DrIn.c5 {w wr : World} {D R N L : Nat} {d : DrV} {r : RecV} (h : DrIn w wr D R N L d r) : wr.cell? ⟨D, 5, none⟩ = some (.int .u16 d.n4) := cell_whole h.hd 5
theorem DrIn.c6 {w wr : World} {D R N L : Nat} {d : DrV} {r : RecV} (h : DrIn w wr D R N L d r) : wr.cell? ⟨D, 6, none⟩ = some (.int .u64 d.g0) := cell_whole h.hd 6
theorem DrIn.c7 {w wr : World} {D R N L : Nat} {d : DrV} {r : RecV} (h : DrIn w wr D R N L d r) : wr.cell? ⟨D, 7, none⟩ = some (.int .u64 d.g1) := cell_whole h.hd 7
theorem DrIn.c8 {w wr : World} {D R N L : Nat} {d : DrV} {r : RecV} (h : DrIn w wr D R N L d r) : wr.cell? ⟨D, 8, none⟩ = some (.int .u64 d.g2) := cell_whole h.hd 8
theorem DrIn.c9 {w wr : World} {D R N L : Nat} {d : DrV} {r : RecV} (h : DrIn w wr D R N L d r) : wr.cell? ⟨D, 9, none⟩ = some (.slice d.ba d.nb d.cb) := cell_whole h.hd 9
theorem DrIn.m0 {w wr : World} {D R N L : Nat} {d : DrV} {r : RecV} (h : DrIn w wr D R N L d r) : wr.cell? ⟨N, 0, none⟩ = some (.int .u16 d.n0) := cell_whole h.hn 0
theorem DrIn.m1 {w wr : World} {D R N L : Nat} {d : DrV} {r : RecV} (h : DrIn w wr D R N L d r) : wr.cell? ⟨N, 1, none⟩ = some (.int .u16 d.n1) := cell_whole h.hn 1
theorem DrIn.m2 {w wr : World} {D R N L : Nat} {d : DrV} {r : RecV} (h : DrIn w wr D R N L d r) : wr.cell? ⟨N, 2, none⟩ = some (.int .u16 d.n2) := cell_whole h.hn 2
theorem DrIn.m3 {w wr : World} {D R N L : Nat} {d : DrV} {r : RecV} (h : DrIn w wr D R N L d r) : wr.cell? ⟨N, 3, none⟩ = some (.int .u16 d.n3) := cell_whole h.hn 3
theorem DrIn.m4 {w wr : World} {D R N L : Nat} {d : DrV} {r : RecV} (h : DrIn w wr D R N L d r) : wr.cell? ⟨N, 4, none⟩ = some (.int .u16 d.n4) := cell_whole h.hn 4
theorem far3 {A B C L : Nat} {i1 i2 i3 j : Nat} {v1 v2 v3 v : Value} {W : World} (h1 : A ≠ L) (h2 : B ≠ L) (h3 : C ≠ L) (h : W.cell? ⟨A, i1, none⟩ = some v1 ∧ W.cell? ⟨B, i2, none⟩ = some v2 ∧ W.cell? ⟨C, i3, none⟩ = some v3) :
    (W.setCell ⟨L, j, none⟩ v).cell? ⟨A, i1, none⟩ = some v1 ∧ (W.setCell ⟨L, j, none⟩ v).cell? ⟨B, i2, none⟩ = some v2 ∧ (W.setCell ⟨L, j, none⟩ v).cell? ⟨C, i3, none⟩ = some v3 :=
  ⟨(cell_past h1).trans h.1, (cell_past h2).trans h.2.1, (cell_past h3).trans h.2.2⟩
theorem far4 {A L : Nat} {i1 i2 i3 i4 j : Nat} {v1 v2 v3 v4 v : Value} {W : World} (h1 : A ≠ L) (h : W.cell? ⟨A, i1, none⟩ = some v1 ∧ W.cell? ⟨A, i2, none⟩ = some v2 ∧ W.cell? ⟨A, i3, none⟩ = some v3 ∧ W.cell? ⟨A, i4, none⟩ = some v4) :
    (W.setCell ⟨L, j, none⟩ v).cell? ⟨A, i1, none⟩ = some v1 ∧ (W.setCell ⟨L, j, none⟩ v).cell? ⟨A, i2, none⟩ = some v2 ∧ (W.setCell ⟨L, j, none⟩ v).cell? ⟨A, i3, none⟩ = some v3 ∧ (W.setCell ⟨L, j, none⟩ v).cell? ⟨A, i4, none⟩ = some v4 :=
  ⟨(cell_past h1).trans h.1, (cell_past h1).trans h.2.1, (cell_past h1).trans h.2.2.1, (cell_past h1).trans h.2.2.2⟩
theorem own_block {base : Nat} {E : TypeId} {size : Nat} {w : World} {v : Value} {n : Nat} {xs : List Value} (h : w.ownsRow base E size v n xs) : ∀ k, v.ownBlock = some k → base ≤ k ∧ ∃ cur, w.heap[k]? = some (.cells cur E (0, 0)) := by
  obtain ⟨_, h2⟩ := h
  intro k hk
  rcases h2 with ⟨rfl, _⟩ | ⟨g, cap, cur, rfl, hg, hh, _⟩
  · cases hk
  · have : g = k := by simpa [Value.ownBlock] using hk
    subst this
    exact ⟨hg, cur, hh⟩
theorem DrIn.grow {w wr w' : World} {D R N L : Nat} {d : DrV} {r : RecV} {v : Value} {E : TypeId} (h : DrIn w wr D R N L d r) (hE : E = 3 ∨ E = 68) (ho : ∀ k, v.ownBlock = some k → w.heap.size ≤ k ∧ ∃ cur, wr.heap[k]? = some (.cells cur E (0, 0)))
    (hk : ∀ K : Nat → Prop, (∀ k, v.ownBlock = some k → ¬ K k) → Keeps K wr w') : DrIn w w' D R N L d r := by
  have hK := hk (fun k => v.ownBlock ≠ some k) (fun k e h => h e)
  have hne : ∀ k cs T, wr.heap[k]? = some (.cells cs T (0, 0)) → T ≠ 3 → T ≠ 68 → v.ownBlock ≠ some k := by
    intro k cs T hc h1 h2 e
    obtain ⟨_, cur, hcur⟩ := ho k e
    rw [hc] at hcur
    injection hcur with hcur
    injection hcur with _ hT _
    rcases hE with rfl | rfl
    · exact h1 hT
    · exact h2 hT
  exact { h with
    hd := whole_keeps h.hd hK (hne _ _ _ h.hd (by decide) (by decide))
    hn := whole_keeps h.hn hK (hne _ _ _ h.hn (by decide) (by decide))
    hr := h.hr.keeps hK (hne _ _ _ h.hr (by decide) (by decide))
    hl := h.hl.keeps hK (hne _ _ _ h.hl (by decide) (by decide))
    old := h.old.trans ((hK.mono (K' := (· < w.heap.size)) (fun k _ hlt e => by have := (ho k e).1; omega)).below h.old.size) }
theorem DrIn.begin_ {w : World} {d : DrV} (h : DrAt w d) (r : RecV) : DrIn w ((((w.alloc (.cells (drCells d) 28)).alloc (.cells (recCells {}) 38)).alloc (.cells #[.int .u16 d.n0, .int .u16 d.n1, .int .u16 d.n2, .int .u16 d.n3, .int .u16 d.n4] 23)).alloc (.cells (recCells r) 38)) w.heap.size (w.heap.size + 1) (w.heap.size + 1 + 1) (w.heap.size + 1 + 1 + 1) d r := by
  obtain ⟨w1, hw1⟩ : ∃ z, z = w.alloc (.cells (drCells d) 28) := ⟨_, rfl⟩
  have h1 : w1.heap[w.heap.size]? = some (.cells (drCells d) 28 (0, 0)) := by rw [hw1]; exact heap_new _ _
  have n1 : Below w.heap.size w w1 := by rw [hw1]; exact new_alloc _ _
  have s1 : w1.heap.size = w.heap.size + 1 := by rw [hw1]; simp
  rw [← hw1]
  obtain ⟨w2, hw2⟩ : ∃ z, z = w1.alloc (.cells (recCells {}) 38) := ⟨_, rfl⟩
  have h2 : RecIn w2 (w.heap.size + 1) {} := by rw [hw2, ← s1]; exact RecIn.box _ _
  have n2 : Below w1.heap.size w1 w2 := by rw [hw2]; exact new_alloc _ _
  have s2 : w2.heap.size = w.heap.size + 1 + 1 := by rw [hw2]; simp [s1]
  rw [← hw2]
  obtain ⟨w3, hw3⟩ : ∃ z, z = w2.alloc (.cells #[.int .u16 d.n0, .int .u16 d.n1, .int .u16 d.n2, .int .u16 d.n3, .int .u16 d.n4] 23) := ⟨_, rfl⟩
  have h3 : w3.heap[w.heap.size + 1 + 1]? = some (.cells #[.int .u16 d.n0, .int .u16 d.n1, .int .u16 d.n2, .int .u16 d.n3, .int .u16 d.n4] 23 (0, 0)) := by rw [hw3, ← s2]; exact heap_new _ _
  have n3 : Below w2.heap.size w2 w3 := by rw [hw3]; exact new_alloc _ _
  have s3 : w3.heap.size = w.heap.size + 1 + 1 + 1 := by rw [hw3]; simp [s2]
  rw [← hw3]
  have n4 := new_alloc w3 (.cells (recCells r) 38)
  have h4 : RecIn (w3.alloc (.cells (recCells r) 38)) (w.heap.size + 1 + 1 + 1) r := by rw [← s3]; exact RecIn.box _ _
  exact ⟨whole_new (whole_new (whole_new h1 n2) n3) n4, whole_new h3 n4, (h2.new n3).new n4, h4, new_trans (new_trans (new_trans n1 n2) n3) n4, h, by omega, by omega, by omega, by omega, by omega, by omega, by omega⟩
end Go.Proofs.YtkpmcjfolncmmaaGreatDoor
namespace Go.Proofs.YtkpmcjfolncmmaaGreatDoor
open Go.RowKit
theorem LotsIn.snoc {xs : List (Int × Int)} (h : LotsIn xs) {a b : Int} (ha : 0 ≤ a ∧ a ≤ 63) (hb : 0 ≤ b ∧ b ≤ 16777216) : LotsIn (xs ++ [(a, b)]) := fun x hx => by
  rcases List.mem_append.1 hx with h1 | h1
  · exact h x h1
  · rw [List.mem_singleton.1 h1]; exact ⟨ha, hb⟩
theorem lotCells_snoc (xs : List (Int × Int)) (a b : Int) : lotCells (xs ++ [(a, b)]) = lotCells xs ++ [.int .i64 a, .int .i64 b] := by
  simp [lotCells]
theorem may1 (ca cm rv sc : Int) (xs : List (Int × Int)) (ys : List Int) (hca : 1 ≤ ca ∧ ca ≤ 8) (hcm : 1 ≤ cm ∧ cm ≤ 64) (hrv : 1 ≤ rv ∧ rv ≤ 64) (hsc : 0 ≤ sc ∧ sc ≤ 1) (hx : LotsIn xs) (hxn : xs.length ≤ 16) (hy : ∀ y ∈ ys, 0 ≤ y ∧ y ≤ 7) (hyn : ys.length ≤ 64) :
    mayB { kind := 1, carriers := ca, commit := cm, reveal := rv, scheme := sc, lots := xs, owners := ys } = true ∧ RecD.ok { kind := 1, carriers := ca, commit := cm, reveal := rv, scheme := sc, lots := xs, owners := ys } := by
  have h1 : allTo (lotAt xs) xs.length = true := by
    rw [allTo_iff]
    intro k hk
    have hm : xs.getD k (0, 0) ∈ xs := by rw [List.getD_eq_getElem?_getD, List.getElem?_eq_getElem hk]; exact List.getElem_mem _
    have := hx _ hm
    rw [lotAt, lotB, withinB_true this.1.1 this.1.2, withinB_true this.2.1 this.2.2]
    rfl
  have h2 : allTo (inAt ys) ys.length = true := by
    rw [allTo_iff]
    intro k hk
    have hm : ys.getD k 0 ∈ ys := by rw [List.getD_eq_getElem?_getD, List.getElem?_eq_getElem hk]; exact List.getElem_mem _
    have := hy _ hm
    rw [inAt, withinB_true this.1 this.2]
  constructor
  · have e1 : decide ((xs.length : Int) ≤ 16) = true := decide_eq_true (by omega)
    have e2 : decide ((ys.length : Int) ≤ 64) = true := decide_eq_true (by omega)
    simp [mayB, rightB, sceneD, restOf, emptyD, withinB_true hca.1 hca.2, withinB_true hcm.1 hcm.2, withinB_true hrv.1 hrv.2, withinB_true hsc.1 hsc.2, h1, h2]
    omega
  · refine ⟨rfl, Bs.rep 32, ?_, ?_, ?_, ?_, ?_, ?_, ?_, ?_, ?_, ?_, ?_, ?_⟩ <;> simp <;> omega
end Go.Proofs.YtkpmcjfolncmmaaGreatDoor
namespace Go.Proofs.YtkpmcjfolncmmaaGreatDoor
open Go.RowKit
set_option maxHeartbeats 1000000 in
set_option maxRecDepth 100000 in
theorem draft_2 (d : DrV) (w : World) (h : DrAt w d) (hk : d.kind % 6 = 1) : Calls Tryz.prog 7 #[.agg (drCells d)] w (DrPost w) := by
  obtain ⟨kd, n0, n1, n2, n3, n4, g0, g1, g2, ba, nb, cb⟩ := d
  have H := aside h
  have b1 := h.kind
  have b2 := h.n0
  have b3 := h.n1
  have b4 := h.n2
  have b5 := h.n3
  have b6 := h.n4
  have b7 := h.g0
  have b8 := h.g1
  have b9 := h.g2
  dsimp only at hk b1 b2 b3 b4 b5 b6 b7 b8 b9
  clear h
  obtain ⟨w4, hw4⟩ : ∃ z, z = ((((w.alloc (.cells #[.int .u8 kd, .int .u16 n0, .int .u16 n1, .int .u16 n2, .int .u16 n3, .int .u16 n4, .int .u64 g0, .int .u64 g1, .int .u64 g2, .slice ba nb cb] 28)).alloc (.cells (recCells {}) 38)).alloc (.cells #[.int .u16 n0, .int .u16 n1, .int .u16 n2, .int .u16 n3, .int .u16 n4] 23)).alloc (.cells (recCells { kind := 2, tick := g2 / 2 }) 38)) := ⟨_, rfl⟩
  obtain ⟨D, hD⟩ : ∃ x, x = w.heap.size := ⟨_, rfl⟩
  obtain ⟨R, hR⟩ : ∃ x, x = w.heap.size + 1 := ⟨_, rfl⟩
  obtain ⟨N, hN⟩ : ∃ x, x = w.heap.size + 1 + 1 := ⟨_, rfl⟩
  obtain ⟨L, hL⟩ : ∃ x, x = w.heap.size + 1 + 1 + 1 := ⟨_, rfl⟩
  have H4 : DrIn w w4 D R N L ⟨kd, n0, n1, n2, n3, n4, g0, g1, g2, ba, nb, cb⟩ { kind := 2, tick := g2 / 2 } := by rw [hw4, hD, hR, hN, hL]; exact DrIn.begin_ H.out _
  have H4 := aside H4
  go_enter Tryz.func7, Tryz.ntmps7
  unfold drCells
  go_upto_region 2 with fail
  rw [zR]
  obtain ⟨w3, hw3⟩ : ∃ z, z = (((w.alloc (.cells #[.int .u8 kd, .int .u16 n0, .int .u16 n1, .int .u16 n2, .int .u16 n3, .int .u16 n4, .int .u64 g0, .int .u64 g1, .int .u64 g2, .slice ba nb cb] 28)).alloc (.cells (recCells {}) 38)).alloc (.cells #[.int .u16 n0, .int .u16 n1, .int .u16 n2, .int .u16 n3, .int .u16 n4] 23)) := ⟨_, rfl⟩
  rw [← hw3] at hw4 ⊢
  have s3 : w3.heap.size = w.heap.size + 1 + 1 + 1 := by rw [hw3]; simp
  have h3 : w3.heap[w.heap.size]? = some (.cells #[.int .u8 kd, .int .u16 n0, .int .u16 n1, .int .u16 n2, .int .u16 n3, .int .u16 n4, .int .u64 g0, .int .u64 g1, .int .u64 g2, .slice ba nb cb] 28 (0, 0)) := by
    rw [hw3]
    refine whole_new (whole_new (heap_new _ _) (new_alloc _ _)) (new_alloc _ _)
  have c0 : w3.cell? ⟨w.heap.size, 0, none⟩ = some (.int .u8 kd) := cell_whole h3 0
  have c8 : w3.cell? ⟨w.heap.size, 8, none⟩ = some (.int .u64 g2) := cell_whole h3 8
  clear h3
  have HD := aside hD
  have HR := aside hR
  have HN := aside hN
  have HL := aside hL
  clear hD hR hN hL
  have HST : Aside ((Instr.storeAt 38 (.pointer (some ⟨w.heap.size + 1 + 1 + 1, 0, none⟩)) (.agg (recCells { kind := 2, tick := g2 / 2 }))).run Tryz.prog (w3.alloc (.cells (recCells {}) 38)) = .ok () w4) := by
    rw [Aside, hw4, ← s3]
    exact run_storeAt_new' w3 38 (recCells {}) _ (by rw [recCells_size]; kernel_rfl) rfl (recCells_one _ rfl rfl rfl)
  clear hw3 hw4
  go_upto_region 3 with (first
    | (refine wpList_build_by rfl 38 _ rfl [(0, .int .i64 2), (4, .int .i64 (g2 / 2))] rfl _ (build_kt _ _ _) ?_)
    | (refine wpList_store_by rfl 38 _ _ rfl _ _ rfl rfl HST.out ?_)
    | fail)
  rw [← HL.out, ← HN.out, ← HR.out, ← HD.out]
  clear c0 c8 s3 HST
  have hkd := H4.out.hl.kind
  have m0 := H4.out.m0
  have l1 := H4.out.hl.round
  have f1 := H4.out.hl.free 1
  dsimp only at hkd m0 l1
  go_upto_region 17 with fail
  obtain ⟨rd, hrd⟩ : ∃ x, x = n0 % 16 := ⟨_, rfl⟩
  have hrb : 0 ≤ rd ∧ rd ≤ 15 := by omega
  rw [← hrd]
  obtain ⟨w5, hw5⟩ : ∃ z, z = w4.setCell ⟨L, 1, none⟩ (.int .i64 rd) := ⟨_, rfl⟩
  have H5 : DrIn w w5 D R N L ⟨kd, n0, n1, n2, n3, n4, g0, g1, g2, ba, nb, cb⟩ { kind := 2, round := rd, tick := g2 / 2 } := by rw [hw5]; exact H4.out.set 1 _ (H4.out.hl.setRound rd)
  have H5 := aside H5
  rw [← hw5]
  clear hw5 hrd H4 hkd m0 l1 f1
  have HTK : Aside (0 ≤ g2 / 2 ∧ g2 / 2 ≤ 9223372036854775807) := by rw [Aside]; omega
  obtain ⟨tk, htk⟩ : ∃ x, x = g2 / 2 := ⟨_, rfl⟩
  rw [← htk] at H5 HTK
  have hkd := H5.out.hl.kind
  have m1 := H5.out.m1
  have l2 := H5.out.hl.lot
  have f2 := H5.out.hl.free 2
  dsimp only at hkd m1 l2
  go_upto_region 20 with fail
  obtain ⟨lt, hlte⟩ : ∃ x, x = n1 % 16 := ⟨_, rfl⟩
  have hlt0 : 0 ≤ lt ∧ lt ≤ 15 := by omega
  rw [← hlte]
  obtain ⟨w6, hw6⟩ : ∃ z, z = w5.setCell ⟨L, 2, none⟩ (.int .i64 lt) := ⟨_, rfl⟩
  have H6 : DrIn w w6 D R N L ⟨kd, n0, n1, n2, n3, n4, g0, g1, g2, ba, nb, cb⟩ { kind := 2, round := rd, lot := lt, tick := tk } := by rw [hw6]; exact H5.out.set 2 _ (H5.out.hl.setLot lt)
  have H6 := aside H6
  rw [← hw6]
  clear hw6 hlte H5 hkd m1 l2 f2
  have HOW : Aside (w6.ownsRow w.heap.size 3 1 (.slice none 0 0) 0 (([] : List Int).map (Value.int .i64))) := World.ownsRow_nil _ _ _ _
  have HX : Aside (RiseTo 0 []) := ⟨fun j h => absurd h (Nat.not_lt_zero _), fun j h => absurd h (Nat.not_lt_zero _)⟩
  go_wp2_with fail
  go_loopg [7] 8 (fun g v7 wr => ∃ (k : Nat) (xs : List Int) (bv : Value), k ≤ 8 ∧ v7 = .int .i64 k ∧ 8 - k ≤ g ∧ Aside (RiseTo k xs ∧ xs.length ≤ k) ∧ Aside (DrIn w wr D R N L ⟨kd, n0, n1, n2, n3, n4, g0, g1, g2, ba, nb, cb⟩ { kind := 2, round := rd, lot := lt, tick := tk, barred := bv }) ∧ Aside (wr.ownsRow w.heap.size 3 1 bv xs.length (xs.map (Value.int .i64))))
  case atStart => exact ⟨0, [], _, by omega, rfl, by omega, ⟨HX.out, by simp⟩, H6, HOW⟩
  case round =>
    clear H6 HOW HX
    obtain ⟨k, xs, bv, hk, rfl, hg, HX, H7, HOW⟩ := hrel
    have m2 := H7.out.m2
    dsimp only at m2
    by_cases hlt : k < 8
    · have hki : (k : Int) < 8 := by omega
      have HME : Aside (∀ q, 8 - k ≤ q → 8 - (k + 1) < q) := fun q h => by omega
      by_cases hb : ((n2 / 2 ^ k).tmod 2 == 1) = true
      · have l5 := H7.out.hl.barred
        have f5 := H7.out.hl.free 5
        dsimp only at l5
        have hs2 : w.heap.size ≤ wr.heap.size := H7.out.old.size
        have hxl := HX.out.2
        go_upto_region 24 with fail
        clear hb m2
        go_wp2_with (first
          | (at_builtin; refine wpList_append_one rfl _ _ 31 3 rfl (.int .i64 0) 1 8 Tryz.underlying31 Tryz.infoInt rfl (by decide) w.heap.size _ xs.length _ rfl (World.ownsRow.alloc HOW.out _) wr.heap.size [.int .i64 k] rfl (by simp [Value.oneCell']) rfl ?c1 ?c2 ?c3 ?c4 ?_)
          | fail)
        case c1 => intro j u hu; rw [cell_new]; match j, hu with | 0, hu => simpa using hu | j + 1, hu => simp at hu
        case c2 => unfold maxLen; omega
        case c3 => omega
        case c4 => simp; omega
        intro v' w3 hown' hgrow
        obtain ⟨av, cv, hv'⟩ : ∃ a c, v' = .slice a (xs.length + 1) c := by obtain ⟨a, c, e, _⟩ := ownsRow_form hown'; exact ⟨a, c, e⟩
        subst hv'
        have H8 : DrIn w w3 D R N L ⟨kd, n0, n1, n2, n3, n4, g0, g1, g2, ba, nb, cb⟩ { kind := 2, round := rd, lot := lt, tick := tk, barred := bv } :=
          H7.out.grow (.inl rfl) (own_block HOW.out) (fun K hK => (keeps_of_new (new_alloc _ _) K).trans (keeps_grown hgrow K hK))
        have H8 := aside H8
        obtain ⟨wn, hwn⟩ : ∃ z, z = w3.setCell ⟨L, 5, none⟩ (.slice av (xs.length + 1) cv) := ⟨_, rfl⟩
        have H9 : DrIn w wn D R N L ⟨kd, n0, n1, n2, n3, n4, g0, g1, g2, ba, nb, cb⟩ { kind := 2, round := rd, lot := lt, tick := tk, barred := .slice av (xs.length + 1) cv } := by rw [hwn]; exact H8.out.set 5 _ (H8.out.hl.setBarred _)
        have H9 := aside H9
        have HX9 : Aside (RiseTo (k + 1) (xs ++ [(k : Int)]) ∧ (xs ++ [(k : Int)]).length ≤ k + 1) := ⟨HX.out.1.snoc, by simp; omega⟩
        have HOW9 : Aside (wn.ownsRow w.heap.size 3 1 (.slice av (xs.length + 1) cv) (xs ++ [(k : Int)]).length ((xs ++ [(k : Int)]).map (Value.int .i64))) := by
          rw [Aside, hwn, List.length_append, List.map_append]
          refine ownsRow_keepsO hown' ((Keeps.refl (· ≠ L) _).setCell (p := ⟨L, 5, none⟩) (.inr (fun h => h rfl)) _) (fun j hj e => ?_)
          subst e
          obtain ⟨_, cur, hcur⟩ := own_block hown' j hj
          have := H8.out.hl
          unfold RecIn at this
          rw [this] at hcur
          simp at hcur
        have l5 := H8.out.hl.barred
        have f5 := H8.out.hl.free 5
        dsimp only at l5
        clear hown' hgrow H7 HOW HX
        go_upto_region 22 with fail
        rw [← hwn]
        clear hwn l5 f5
        go_wp2_with fail
        go_roundg (8 - (k + 1))
        case measure => exact HME.out _ hg
        case rel => exact ⟨k + 1, xs ++ [(k : Int)], _, hlt, by go_num, Nat.le_refl _, HX9, H9, HOW9⟩
      · have hb2 : ((n2 / 2 ^ k).tmod 2 == 1) = false := by simpa using hb
        clear hb
        have HX2 : Aside (RiseTo (k + 1) xs ∧ xs.length ≤ k + 1) := ⟨HX.out.1.up, by have := HX.out.2; omega⟩
        go_wp2_with fail
        go_roundg (8 - (k + 1))
        case measure => exact HME.out _ hg
        case rel => exact ⟨k + 1, xs, bv, hlt, by go_num, Nat.le_refl _, HX2, H7, HOW⟩
    · have hki : ¬ (k : Int) < 8 := by omega
      have hk8 : k = 8 := by omega
      have HO : Aside (mayB { kind := 2, round := rd, lot := lt, tick := tk, barred := xs } = true ∧ RecD.ok { kind := 2, round := rd, lot := lt, tick := tk, barred := xs }) := may2 _ _ _ _ HTK.out hrb hlt0 (by rw [← hk8]; exact HX.out.1) (by rw [← hk8]; exact HX.out.2)
      have HD0 : Aside (RecFrom w.heap.size wr { kind := 2, round := rd, lot := lt, tick := tk, barred := bv } ({ kind := 2, round := rd, lot := lt, tick := tk, barred := xs } : RecD)) := ⟨bv, .slice none 0 0, .slice none 0 0, by simp only [RecD.toV, rep_getD], rowIF_owned rfl HOW.out (Nat.le_refl _), RowLF.nil _ _, RowIF.nil _ _⟩
      clear hk8 m2
      go_upto_region 37 with fail
      have hrg : wr.rangeAt L 0 (recCells { kind := 2, round := rd, lot := lt, tick := tk, barred := bv }).toList := fun j v hv => by rw [Nat.zero_add, H7.out.hl.cell j, ← Array.getElem?_toList]; exact hv
      have HRG := aside hrg
      have hi1 : (Tryz.prog.info? 38).map (·.size) = some (recCells { kind := 2, round := rd, lot := lt, tick := tk, barred := bv }).toList.length := by rw [Array.length_toList, recCells_size]; kernel_rfl
      have hi0 : (Tryz.prog.info? 38).map (·.size) = some (recCells { kind := 2, round := rd, lot := lt, tick := tk, barred := bv }).size := by rw [recCells_size]; kernel_rfl
      have HRF := HD0
      have hone := HRF.out.one
      obtain ⟨wz, hwz⟩ : ∃ z, z = wr.setRow R (recCells { kind := 2, round := rd, lot := lt, tick := tk, barred := bv }) := ⟨_, rfl⟩
      have HRZ : Aside (RecIn wz R { kind := 2, round := rd, lot := lt, tick := tk, barred := bv }) := by rw [hwz]; exact H7.out.hr.setRow _
      have HKZ : Keeps (· ≠ R) wr wz := by rw [hwz]; exact keeps_setRow wr R _ (fun h => h rfl)
      have HBZ : Aside (Below w.heap.size w wz) := new_of_keeps H7.out.old HKZ H7.out.nR
      have HRFZ : Aside (RecFrom w.heap.size wz { kind := 2, round := rd, lot := lt, tick := tk, barred := bv } _) := HRF.out.keepsT HKZ (fun k hb e => by subst e; exact row_not_rec hb H7.out.hr)
      have HWZ := aside hwz
      have HXR := aside H7.out.hr
      clear hrg hwz HKZ
      go_wp2_with (first
        | (refine wpList_load_midG (by rfl) _ _ rfl L 0 rfl _ _ HRG.out Tryz.underlying38 rfl hi1 (recCells { kind := 2, round := rd, lot := lt, tick := tk, barred := bv }) (Array.toArray_toList) ?_)
        | (refine wpList_store_row rfl _ _ _ rfl R (recCells { kind := 2, round := rd, lot := lt, tick := tk, barred := bv }) rfl rfl 38 _ HXR.out hi0 rfl hone ?_; rw [← HWZ.out])
        | fail)
      refine bodyPost_ret_by (dr_results HRZ.out _ rfl) rfl ?_
      exact ⟨_, _, rfl, HRFZ.out, HO.out.1, HO.out.2, HBZ.out⟩
end Go.Proofs.YtkpmcjfolncmmaaGreatDoor
namespace Go.Proofs.YtkpmcjfolncmmaaGreatDoor
open Go.RowKit
set_option maxHeartbeats 1000000 in
set_option maxRecDepth 100000 in
theorem draft_3 (d : DrV) (w : World) (h : DrAt w d) (hk : d.kind % 6 = 2) : Calls Tryz.prog 7 #[.agg (drCells d)] w (DrPost w) := by
  obtain ⟨kd, n0, n1, n2, n3, n4, g0, g1, g2, ba, nb, cb⟩ := d
  have H := aside h
  have b1 := h.kind
  have b2 := h.n0
  have b3 := h.n1
  have b4 := h.n2
  have b5 := h.n3
  have b6 := h.n4
  have b7 := h.g0
  have b8 := h.g1
  have b9 := h.g2
  dsimp only at hk b1 b2 b3 b4 b5 b6 b7 b8 b9
  clear h
  obtain ⟨w4, hw4⟩ : ∃ z, z = ((((w.alloc (.cells #[.int .u8 kd, .int .u16 n0, .int .u16 n1, .int .u16 n2, .int .u16 n3, .int .u16 n4, .int .u64 g0, .int .u64 g1, .int .u64 g2, .slice ba nb cb] 28)).alloc (.cells (recCells {}) 38)).alloc (.cells #[.int .u16 n0, .int .u16 n1, .int .u16 n2, .int .u16 n3, .int .u16 n4] 23)).alloc (.cells (recCells { kind := 3, tick := g2 / 2 }) 38)) := ⟨_, rfl⟩
  obtain ⟨D, hD⟩ : ∃ x, x = w.heap.size := ⟨_, rfl⟩
  obtain ⟨R, hR⟩ : ∃ x, x = w.heap.size + 1 := ⟨_, rfl⟩
  obtain ⟨N, hN⟩ : ∃ x, x = w.heap.size + 1 + 1 := ⟨_, rfl⟩
  obtain ⟨L, hL⟩ : ∃ x, x = w.heap.size + 1 + 1 + 1 := ⟨_, rfl⟩
  have H4 : DrIn w w4 D R N L ⟨kd, n0, n1, n2, n3, n4, g0, g1, g2, ba, nb, cb⟩ { kind := 3, tick := g2 / 2 } := by rw [hw4, hD, hR, hN, hL]; exact DrIn.begin_ H.out _
  have H4 := aside H4
  go_enter Tryz.func7, Tryz.ntmps7
  unfold drCells
  go_upto_region 2 with fail
  rw [zR]
  obtain ⟨w3, hw3⟩ : ∃ z, z = (((w.alloc (.cells #[.int .u8 kd, .int .u16 n0, .int .u16 n1, .int .u16 n2, .int .u16 n3, .int .u16 n4, .int .u64 g0, .int .u64 g1, .int .u64 g2, .slice ba nb cb] 28)).alloc (.cells (recCells {}) 38)).alloc (.cells #[.int .u16 n0, .int .u16 n1, .int .u16 n2, .int .u16 n3, .int .u16 n4] 23)) := ⟨_, rfl⟩
  rw [← hw3] at hw4 ⊢
  have s3 : w3.heap.size = w.heap.size + 1 + 1 + 1 := by rw [hw3]; simp
  have h3 : w3.heap[w.heap.size]? = some (.cells #[.int .u8 kd, .int .u16 n0, .int .u16 n1, .int .u16 n2, .int .u16 n3, .int .u16 n4, .int .u64 g0, .int .u64 g1, .int .u64 g2, .slice ba nb cb] 28 (0, 0)) := by
    rw [hw3]
    refine whole_new (whole_new (heap_new _ _) (new_alloc _ _)) (new_alloc _ _)
  have c0 : w3.cell? ⟨w.heap.size, 0, none⟩ = some (.int .u8 kd) := cell_whole h3 0
  have c8 : w3.cell? ⟨w.heap.size, 8, none⟩ = some (.int .u64 g2) := cell_whole h3 8
  clear h3
  have HD := aside hD
  have HR := aside hR
  have HN := aside hN
  have HL := aside hL
  clear hD hR hN hL
  have HST : Aside ((Instr.storeAt 38 (.pointer (some ⟨w.heap.size + 1 + 1 + 1, 0, none⟩)) (.agg (recCells { kind := 3, tick := g2 / 2 }))).run Tryz.prog (w3.alloc (.cells (recCells {}) 38)) = .ok () w4) := by
    rw [Aside, hw4, ← s3]
    exact run_storeAt_new' w3 38 (recCells {}) _ (by rw [recCells_size]; kernel_rfl) rfl (recCells_one _ rfl rfl rfl)
  clear hw3 hw4
  go_upto_region 3 with (first
    | (refine wpList_build_by rfl 38 _ rfl [(0, .int .i64 3), (4, .int .i64 (g2 / 2))] rfl _ (build_kt _ _ _) ?_)
    | (refine wpList_store_by rfl 38 _ _ rfl _ _ rfl rfl HST.out ?_)
    | fail)
  rw [← HL.out, ← HN.out, ← HR.out, ← HD.out]
  clear c0 c8 s3 HST
  have hkd := H4.out.hl.kind
  have m0 := H4.out.m0
  have l1 := H4.out.hl.round
  have f1 := H4.out.hl.free 1
  dsimp only at hkd m0 l1
  go_upto_region 17 with fail
  obtain ⟨rd, hrd⟩ : ∃ x, x = n0 % 16 := ⟨_, rfl⟩
  have hrb : 0 ≤ rd ∧ rd ≤ 15 := by omega
  rw [← hrd]
  obtain ⟨w5, hw5⟩ : ∃ z, z = w4.setCell ⟨L, 1, none⟩ (.int .i64 rd) := ⟨_, rfl⟩
  have H5 : DrIn w w5 D R N L ⟨kd, n0, n1, n2, n3, n4, g0, g1, g2, ba, nb, cb⟩ { kind := 3, round := rd, tick := g2 / 2 } := by rw [hw5]; exact H4.out.set 1 _ (H4.out.hl.setRound rd)
  have H5 := aside H5
  rw [← hw5]
  clear hw5 hrd H4 hkd m0 l1 f1
  have HTK : Aside (0 ≤ g2 / 2 ∧ g2 / 2 ≤ 9223372036854775807) := by rw [Aside]; omega
  obtain ⟨tk, htk⟩ : ∃ x, x = g2 / 2 := ⟨_, rfl⟩
  rw [← htk] at H5 HTK
  have hkd := H5.out.hl.kind
  have m1 := H5.out.m1
  have l3 := H5.out.hl.carrier
  have f3 := H5.out.hl.free 3
  dsimp only at hkd m1 l3
  go_upto_region 27 with fail
  obtain ⟨ca, hcae⟩ : ∃ x, x = n1 % 8 := ⟨_, rfl⟩
  have hca : 0 ≤ ca ∧ ca ≤ 7 := by omega
  rw [← hcae]
  obtain ⟨w6, hw6⟩ : ∃ z, z = w5.setCell ⟨L, 3, none⟩ (.int .i64 ca) := ⟨_, rfl⟩
  have H6 : DrIn w w6 D R N L ⟨kd, n0, n1, n2, n3, n4, g0, g1, g2, ba, nb, cb⟩ { kind := 3, round := rd, carrier := ca, tick := tk, dig := fun k => (List.replicate 32 (0 : Int)).getD k 0 } := by
    rw [hw6]
    have := H5.out.set 3 _ (H5.out.hl.setCarrier ca)
    simpa only [rep_getD] using this
  have H6 := aside H6
  rw [← hw6]
  clear hw6 hcae H5 hkd m1 l3 f3
  obtain ⟨f, hf1, hf2⟩ := H.out.bytes
  dsimp only at hf2
  have HF1 := aside hf1
  have HF2 := aside hf2
  have hcap := H.out.cap
  have hlen := H.out.len
  dsimp only at hcap hlen
  clear hf1 hf2
  go_wp2_with fail
  go_loopg [8] 32 (fun g v8 wr => ∃ (k : Nat) (l : List Int), k ≤ 32 ∧ v8 = .int .i64 k ∧ 32 - k ≤ g ∧ Aside (l.length = 32 ∧ Bs l) ∧ Aside (DrIn w wr D R N L ⟨kd, n0, n1, n2, n3, n4, g0, g1, g2, ba, nb, cb⟩ { kind := 3, round := rd, carrier := ca, tick := tk, dig := fun k => l.getD k 0 }))
  case atStart => exact ⟨0, List.replicate 32 0, by omega, rfl, by omega, ⟨rfl, Bs.rep 32⟩, H6⟩
  case round =>
    clear H6
    obtain ⟨k, l, hk, rfl, hg, HLB, H7⟩ := hrel
    have c9 := H7.out.c9
    dsimp only at c9
    by_cases hc : k < 32 ∧ 0 < nb
    · obtain ⟨hlt, hnb⟩ := hc
      have hki : (k : Int) < 32 := by omega
      have hni : (0 : Int) < nb := by omega
      have HME : Aside (∀ q, 32 - k ≤ q → 32 - (k + 1) < q) := fun q h => by omega
      obtain ⟨lb, lo, rfl, hlb, hj⟩ := HF2.out hnb
      obtain ⟨q, hq⟩ : ∃ q, q = k % nb := ⟨_, rfl⟩
      have hqn : q < nb := by rw [hq]; exact Nat.mod_lt _ hnb
      have hby : wr.cell? ⟨lb, lo + q, none⟩ = some (.int .u8 (f q)) := (H7.out.old.cell (p := ⟨lb, lo + q, none⟩) hlb).trans (hj q hqn)
      have hfq := HF1.out q
      obtain ⟨z, hz⟩ : ∃ z, z = f q := ⟨_, rfl⟩
      rw [← hz] at hby hfq
      have hrem : (k : Int).tmod (nb : Int) = (q : Int) := by rw [hq]; rfl
      have ld := H7.out.hl.dig k hlt
      have fd := H7.out.hl.free (6 + k)
      dsimp only at ld
      have hqi : (q : Int) < nb := by omega
      have hz0 : ¬ nb = 0 := by omega
      have hz1 : ((nb : Int) == 0) = false := by simpa using hz0
      have hz2 : ¬ (nb : Int) = 0 := by omega
      clear hj hz hq
      go_upto_region 30 with fail
      go_still_tail 12, (by kernel_rfl)
      obtain ⟨wn, hwn⟩ : ∃ x, x = (wr.setCell ⟨L, 6 + k, none⟩ (.int .u8 z)).drew := ⟨_, rfl⟩
      have H8 : DrIn w wn D R N L ⟨kd, n0, n1, n2, n3, n4, g0, g1, g2, some ⟨lb, lo, none⟩, nb, cb⟩ { kind := 3, round := rd, carrier := ca, tick := tk, dig := fun j => (l.set k z).getD j 0 } := by
        rw [hwn]
        have := (H7.out.set (6 + k) (.int .u8 z) (H7.out.hl.setDig k hlt z)).drew
        rw [show (fun j => (l.set k z).getD j 0) = upD (fun j => l.getD j 0) k z from set_upD l k z (by rw [HLB.out.1]; exact hlt)]
        exact this
      have H8 := aside H8
      have HLB8 : Aside ((l.set k z).length = 32 ∧ Bs (l.set k z)) := ⟨by rw [List.length_set]; exact HLB.out.1, HLB.out.2.set k z hfq⟩
      go_upto_region 29 with fail
      rw [← hwn]
      clear hwn H7 HLB hby ld fd c9
      go_wp2_with fail
      go_roundg (32 - (k + 1))
      case measure => exact HME.out _ hg
      case rel => exact ⟨k + 1, l.set k z, hlt, by go_num, Nat.le_refl _, HLB8, H8⟩
    · have HD0 : Aside (RecFrom w.heap.size wr { kind := 3, round := rd, carrier := ca, tick := tk, dig := fun k => l.getD k 0 } ({ kind := 3, round := rd, carrier := ca, tick := tk, dig := l } : RecD)) := ⟨.slice none 0 0, .slice none 0 0, .slice none 0 0, rfl, RowIF.nil _ _, RowLF.nil _ _, RowIF.nil _ _⟩
      have HO : Aside (mayB { kind := 3, round := rd, carrier := ca, tick := tk, dig := l } = true ∧ RecD.ok { kind := 3, round := rd, carrier := ca, tick := tk, dig := l }) := may3 _ _ _ _ HTK.out hrb hca HLB.out
      have eb : ((if (k : Int) < 32 then decide ((0 : Int) < nb) else false) : Bool) = false := by
        by_cases h : (k : Int) < 32
        · rw [if_pos h]; exact decide_eq_false (fun h2 => hc ⟨by omega, by omega⟩)
        · rw [if_neg h]
      by_cases h32 : k < 32
      · have hki : (k : Int) < 32 := by omega
        have hni : ¬ (0 : Int) < nb := fun h => hc ⟨h32, by omega⟩
        clear hc eb
        go_upto_region 37 with fail
        have hrg : wr.rangeAt L 0 (recCells { kind := 3, round := rd, carrier := ca, tick := tk, dig := fun k => l.getD k 0 }).toList := fun j v hv => by rw [Nat.zero_add, H7.out.hl.cell j, ← Array.getElem?_toList]; exact hv
        have HRG := aside hrg
        have hi1 : (Tryz.prog.info? 38).map (·.size) = some (recCells { kind := 3, round := rd, carrier := ca, tick := tk, dig := fun k => l.getD k 0 }).toList.length := by rw [Array.length_toList, recCells_size]; kernel_rfl
        have hi0 : (Tryz.prog.info? 38).map (·.size) = some (recCells { kind := 3, round := rd, carrier := ca, tick := tk, dig := fun k => l.getD k 0 }).size := by rw [recCells_size]; kernel_rfl
        have HRF := HD0
        have hone := HRF.out.one
        obtain ⟨wz, hwz⟩ : ∃ z, z = wr.setRow R (recCells { kind := 3, round := rd, carrier := ca, tick := tk, dig := fun k => l.getD k 0 }) := ⟨_, rfl⟩
        have HRZ : Aside (RecIn wz R { kind := 3, round := rd, carrier := ca, tick := tk, dig := fun k => l.getD k 0 }) := by rw [hwz]; exact H7.out.hr.setRow _
        have HKZ : Keeps (· ≠ R) wr wz := by rw [hwz]; exact keeps_setRow wr R _ (fun h => h rfl)
        have HBZ : Aside (Below w.heap.size w wz) := new_of_keeps H7.out.old HKZ H7.out.nR
        have HRFZ : Aside (RecFrom w.heap.size wz { kind := 3, round := rd, carrier := ca, tick := tk, dig := fun k => l.getD k 0 } _) := HRF.out.keepsT HKZ (fun k hb e => by subst e; exact row_not_rec hb H7.out.hr)
        have HWZ := aside hwz
        have HXR := aside H7.out.hr
        clear hrg hwz HKZ
        go_wp2_with (first
          | (refine wpList_load_midG (by rfl) _ _ rfl L 0 rfl _ _ HRG.out Tryz.underlying38 rfl hi1 (recCells { kind := 3, round := rd, carrier := ca, tick := tk, dig := fun k => l.getD k 0 }) (Array.toArray_toList) ?_)
          | (refine wpList_store_row rfl _ _ _ rfl R (recCells { kind := 3, round := rd, carrier := ca, tick := tk, dig := fun k => l.getD k 0 }) rfl rfl 38 _ HXR.out hi0 rfl hone ?_; rw [← HWZ.out])
          | fail)
        refine bodyPost_ret_by (dr_results HRZ.out _ rfl) rfl ?_
        exact ⟨_, _, rfl, HRFZ.out, HO.out.1, HO.out.2, HBZ.out⟩
      · have hki : ¬ (k : Int) < 32 := by omega
        clear hc eb
        go_upto_region 37 with fail
        have hrg : wr.rangeAt L 0 (recCells { kind := 3, round := rd, carrier := ca, tick := tk, dig := fun k => l.getD k 0 }).toList := fun j v hv => by rw [Nat.zero_add, H7.out.hl.cell j, ← Array.getElem?_toList]; exact hv
        have HRG := aside hrg
        have hi1 : (Tryz.prog.info? 38).map (·.size) = some (recCells { kind := 3, round := rd, carrier := ca, tick := tk, dig := fun k => l.getD k 0 }).toList.length := by rw [Array.length_toList, recCells_size]; kernel_rfl
        have hi0 : (Tryz.prog.info? 38).map (·.size) = some (recCells { kind := 3, round := rd, carrier := ca, tick := tk, dig := fun k => l.getD k 0 }).size := by rw [recCells_size]; kernel_rfl
        have HRF := HD0
        have hone := HRF.out.one
        obtain ⟨wz, hwz⟩ : ∃ z, z = wr.setRow R (recCells { kind := 3, round := rd, carrier := ca, tick := tk, dig := fun k => l.getD k 0 }) := ⟨_, rfl⟩
        have HRZ : Aside (RecIn wz R { kind := 3, round := rd, carrier := ca, tick := tk, dig := fun k => l.getD k 0 }) := by rw [hwz]; exact H7.out.hr.setRow _
        have HKZ : Keeps (· ≠ R) wr wz := by rw [hwz]; exact keeps_setRow wr R _ (fun h => h rfl)
        have HBZ : Aside (Below w.heap.size w wz) := new_of_keeps H7.out.old HKZ H7.out.nR
        have HRFZ : Aside (RecFrom w.heap.size wz { kind := 3, round := rd, carrier := ca, tick := tk, dig := fun k => l.getD k 0 } _) := HRF.out.keepsT HKZ (fun k hb e => by subst e; exact row_not_rec hb H7.out.hr)
        have HWZ := aside hwz
        have HXR := aside H7.out.hr
        clear hrg hwz HKZ
        go_wp2_with (first
          | (refine wpList_load_midG (by rfl) _ _ rfl L 0 rfl _ _ HRG.out Tryz.underlying38 rfl hi1 (recCells { kind := 3, round := rd, carrier := ca, tick := tk, dig := fun k => l.getD k 0 }) (Array.toArray_toList) ?_)
          | (refine wpList_store_row rfl _ _ _ rfl R (recCells { kind := 3, round := rd, carrier := ca, tick := tk, dig := fun k => l.getD k 0 }) rfl rfl 38 _ HXR.out hi0 rfl hone ?_; rw [← HWZ.out])
          | fail)
        refine bodyPost_ret_by (dr_results HRZ.out _ rfl) rfl ?_
        exact ⟨_, _, rfl, HRFZ.out, HO.out.1, HO.out.2, HBZ.out⟩
end Go.Proofs.YtkpmcjfolncmmaaGreatDoor
namespace Go.Proofs.YtkpmcjfolncmmaaGreatDoor
open Go.RowKit
set_option maxHeartbeats 1000000 in
set_option maxRecDepth 100000 in
theorem draft_4 (d : DrV) (w : World) (h : DrAt w d) (hk : d.kind % 6 = 3) : Calls Tryz.prog 7 #[.agg (drCells d)] w (DrPost w) := by
  obtain ⟨kd, n0, n1, n2, n3, n4, g0, g1, g2, ba, nb, cb⟩ := d
  have H := aside h
  have b1 := h.kind
  have b2 := h.n0
  have b3 := h.n1
  have b4 := h.n2
  have b5 := h.n3
  have b6 := h.n4
  have b7 := h.g0
  have b8 := h.g1
  have b9 := h.g2
  dsimp only at hk b1 b2 b3 b4 b5 b6 b7 b8 b9
  clear h
  obtain ⟨w4, hw4⟩ : ∃ z, z = ((((w.alloc (.cells #[.int .u8 kd, .int .u16 n0, .int .u16 n1, .int .u16 n2, .int .u16 n3, .int .u16 n4, .int .u64 g0, .int .u64 g1, .int .u64 g2, .slice ba nb cb] 28)).alloc (.cells (recCells {}) 38)).alloc (.cells #[.int .u16 n0, .int .u16 n1, .int .u16 n2, .int .u16 n3, .int .u16 n4] 23)).alloc (.cells (recCells { kind := 4, tick := g2 / 2 }) 38)) := ⟨_, rfl⟩
  obtain ⟨D, hD⟩ : ∃ x, x = w.heap.size := ⟨_, rfl⟩
  obtain ⟨R, hR⟩ : ∃ x, x = w.heap.size + 1 := ⟨_, rfl⟩
  obtain ⟨N, hN⟩ : ∃ x, x = w.heap.size + 1 + 1 := ⟨_, rfl⟩
  obtain ⟨L, hL⟩ : ∃ x, x = w.heap.size + 1 + 1 + 1 := ⟨_, rfl⟩
  have H4 : DrIn w w4 D R N L ⟨kd, n0, n1, n2, n3, n4, g0, g1, g2, ba, nb, cb⟩ { kind := 4, tick := g2 / 2 } := by rw [hw4, hD, hR, hN, hL]; exact DrIn.begin_ H.out _
  have H4 := aside H4
  go_enter Tryz.func7, Tryz.ntmps7
  unfold drCells
  go_upto_region 2 with fail
  rw [zR]
  obtain ⟨w3, hw3⟩ : ∃ z, z = (((w.alloc (.cells #[.int .u8 kd, .int .u16 n0, .int .u16 n1, .int .u16 n2, .int .u16 n3, .int .u16 n4, .int .u64 g0, .int .u64 g1, .int .u64 g2, .slice ba nb cb] 28)).alloc (.cells (recCells {}) 38)).alloc (.cells #[.int .u16 n0, .int .u16 n1, .int .u16 n2, .int .u16 n3, .int .u16 n4] 23)) := ⟨_, rfl⟩
  rw [← hw3] at hw4 ⊢
  have s3 : w3.heap.size = w.heap.size + 1 + 1 + 1 := by rw [hw3]; simp
  have h3 : w3.heap[w.heap.size]? = some (.cells #[.int .u8 kd, .int .u16 n0, .int .u16 n1, .int .u16 n2, .int .u16 n3, .int .u16 n4, .int .u64 g0, .int .u64 g1, .int .u64 g2, .slice ba nb cb] 28 (0, 0)) := by
    rw [hw3]
    refine whole_new (whole_new (heap_new _ _) (new_alloc _ _)) (new_alloc _ _)
  have c0 : w3.cell? ⟨w.heap.size, 0, none⟩ = some (.int .u8 kd) := cell_whole h3 0
  have c8 : w3.cell? ⟨w.heap.size, 8, none⟩ = some (.int .u64 g2) := cell_whole h3 8
  clear h3
  have HD := aside hD
  have HR := aside hR
  have HN := aside hN
  have HL := aside hL
  clear hD hR hN hL
  have HST : Aside ((Instr.storeAt 38 (.pointer (some ⟨w.heap.size + 1 + 1 + 1, 0, none⟩)) (.agg (recCells { kind := 4, tick := g2 / 2 }))).run Tryz.prog (w3.alloc (.cells (recCells {}) 38)) = .ok () w4) := by
    rw [Aside, hw4, ← s3]
    exact run_storeAt_new' w3 38 (recCells {}) _ (by rw [recCells_size]; kernel_rfl) rfl (recCells_one _ rfl rfl rfl)
  clear hw3 hw4
  go_upto_region 3 with (first
    | (refine wpList_build_by rfl 38 _ rfl [(0, .int .i64 4), (4, .int .i64 (g2 / 2))] rfl _ (build_kt _ _ _) ?_)
    | (refine wpList_store_by rfl 38 _ _ rfl _ _ rfl rfl HST.out ?_)
    | fail)
  rw [← HL.out, ← HN.out, ← HR.out, ← HD.out]
  clear c0 c8 s3 HST
  have hkd := H4.out.hl.kind
  have m0 := H4.out.m0
  have l1 := H4.out.hl.round
  have f1 := H4.out.hl.free 1
  dsimp only at hkd m0 l1
  go_upto_region 17 with fail
  obtain ⟨rd, hrd⟩ : ∃ x, x = n0 % 16 := ⟨_, rfl⟩
  have hrb : 0 ≤ rd ∧ rd ≤ 15 := by omega
  rw [← hrd]
  obtain ⟨w5, hw5⟩ : ∃ z, z = w4.setCell ⟨L, 1, none⟩ (.int .i64 rd) := ⟨_, rfl⟩
  have H5 : DrIn w w5 D R N L ⟨kd, n0, n1, n2, n3, n4, g0, g1, g2, ba, nb, cb⟩ { kind := 4, round := rd, tick := g2 / 2 } := by rw [hw5]; exact H4.out.set 1 _ (H4.out.hl.setRound rd)
  have H5 := aside H5
  rw [← hw5]
  clear hw5 hrd H4 hkd m0 l1 f1
  have HTK : Aside (0 ≤ g2 / 2 ∧ g2 / 2 ≤ 9223372036854775807) := by rw [Aside]; omega
  obtain ⟨tk, htk⟩ : ∃ x, x = g2 / 2 := ⟨_, rfl⟩
  rw [← htk] at H5 HTK
  have hkd := H5.out.hl.kind
  have m1 := H5.out.m1
  have c6 := H5.out.c6
  have c7 := H5.out.c7
  have l3 := H5.out.hl.carrier
  have l38 := H5.out.hl.bid
  have l39 := H5.out.hl.nonce
  have f3 := H5.out.hl.free 3
  have f38 := H5.out.hl.free 38
  have f39 := H5.out.hl.free 39
  dsimp only at hkd m1 c6 c7 l3 l38 l39
  go_upto_region 32 with fail
  have hDL := H5.out.dL
  have hNL := H5.out.nNL
  go_region_held3 (fun W => W.cell? ⟨D, 6, none⟩ = some (.int .u64 g0) ∧ W.cell? ⟨D, 7, none⟩ = some (.int .u64 g1) ∧ W.cell? ⟨N, 1, none⟩ = some (.int .u16 n1)) (first | exact ⟨c6, c7, m1⟩ | exact far3 hDL hDL hNL (by assumption)) (fail)
  have hca : 0 ≤ IntKind.i64.wrap (n1.tmod 8) ∧ IntKind.i64.wrap (n1.tmod 8) ≤ 7 := by
    rw [Int.tmod_eq_emod_of_nonneg b3.1, IntWalk.i64_in _ (by omega)]; omega
  obtain ⟨ca, hcae⟩ : ∃ x, x = IntKind.i64.wrap (n1.tmod 8) := ⟨_, rfl⟩
  rw [← hcae] at hca ⊢
  have hbd : 0 ≤ g0.tmod 4294967297 ∧ g0.tmod 4294967297 ≤ 4294967296 := by
    rw [Int.tmod_eq_emod_of_nonneg b7.1]; omega
  obtain ⟨bd, hbde⟩ : ∃ x, x = g0.tmod 4294967297 := ⟨_, rfl⟩
  rw [← hbde] at hbd ⊢
  obtain ⟨w6, hw6⟩ : ∃ z, z = (((w5.setCell ⟨L, 3, none⟩ (.int .i64 ca)).setCell ⟨L, 38, none⟩ (.int .u64 bd)).setCell ⟨L, 39, none⟩ (.int .u64 g1)).drew := ⟨_, rfl⟩
  have H6 : DrIn w w6 D R N L ⟨kd, n0, n1, n2, n3, n4, g0, g1, g2, ba, nb, cb⟩ { kind := 4, round := rd, carrier := ca, tick := tk, bid := bd, nonce := g1 } := by
    rw [hw6]
    have h1 := H5.out.set 3 (.int .i64 ca) (H5.out.hl.setCarrier ca)
    have h2 := h1.set 38 (.int .u64 bd) (h1.hl.setBid bd)
    exact (h2.set 39 (.int .u64 g1) (h2.hl.setNonce g1)).drew
  have H6 := aside H6
  rw [← hw6]
  have HO : Aside (mayB { kind := 4, round := rd, carrier := ca, tick := tk, bid := bd, nonce := g1 } = true ∧ RecD.ok { kind := 4, round := rd, carrier := ca, tick := tk, bid := bd, nonce := g1 }) := may4 _ _ _ _ _ HTK.out hrb hca hbd b8
  clear hw6 hcae hbde H5 hkd m1 c6 c7 l3 l38 l39 f3 f38 f39
  have hrg : w6.rangeAt L 0 (recCells { kind := 4, round := rd, carrier := ca, tick := tk, bid := bd, nonce := g1 }).toList := fun j v hv => by rw [Nat.zero_add, H6.out.hl.cell j, ← Array.getElem?_toList]; exact hv
  have HRG := aside hrg
  have hi1 : (Tryz.prog.info? 38).map (·.size) = some (recCells { kind := 4, round := rd, carrier := ca, tick := tk, bid := bd, nonce := g1 }).toList.length := by rw [Array.length_toList, recCells_size]; kernel_rfl
  have hi0 : (Tryz.prog.info? 38).map (·.size) = some (recCells { kind := 4, round := rd, carrier := ca, tick := tk, bid := bd, nonce := g1 }).size := by rw [recCells_size]; kernel_rfl
  have HRF : Aside (RecFrom w.heap.size w6 { kind := 4, round := rd, carrier := ca, tick := tk, bid := bd, nonce := g1 } ({ kind := 4, round := rd, carrier := ca, tick := tk, bid := bd, nonce := g1 } : RecD)) := ⟨.slice none 0 0, .slice none 0 0, .slice none 0 0, by simp only [RecD.toV, rep_getD], RowIF.nil _ _, RowLF.nil _ _, RowIF.nil _ _⟩
  have hone := HRF.out.one
  obtain ⟨wz, hwz⟩ : ∃ z, z = w6.setRow R (recCells { kind := 4, round := rd, carrier := ca, tick := tk, bid := bd, nonce := g1 }) := ⟨_, rfl⟩
  have HRZ : Aside (RecIn wz R { kind := 4, round := rd, carrier := ca, tick := tk, bid := bd, nonce := g1 }) := by rw [hwz]; exact H6.out.hr.setRow _
  have HKZ : Keeps (· ≠ R) w6 wz := by rw [hwz]; exact keeps_setRow w6 R _ (fun h => h rfl)
  have HBZ : Aside (Below w.heap.size w wz) := new_of_keeps H6.out.old HKZ H6.out.nR
  have HRFZ : Aside (RecFrom w.heap.size wz { kind := 4, round := rd, carrier := ca, tick := tk, bid := bd, nonce := g1 } _) := HRF.out.keepsT HKZ (fun k hb e => by subst e; exact row_not_rec hb H6.out.hr)
  have HWZ := aside hwz
  have HXR := aside H6.out.hr
  clear hrg hwz HKZ
  go_wp2_with (first
    | (refine wpList_load_midG (by rfl) _ _ rfl L 0 rfl _ _ HRG.out Tryz.underlying38 rfl hi1 (recCells { kind := 4, round := rd, carrier := ca, tick := tk, bid := bd, nonce := g1 }) (Array.toArray_toList) ?_)
    | (refine wpList_store_row rfl _ _ _ rfl R (recCells { kind := 4, round := rd, carrier := ca, tick := tk, bid := bd, nonce := g1 }) rfl rfl 38 _ HXR.out hi0 rfl hone ?_; rw [← HWZ.out])
    | fail)
  refine bodyPost_ret_by (dr_results HRZ.out _ rfl) rfl ?_
  exact ⟨_, _, rfl, HRFZ.out, HO.out.1, HO.out.2, HBZ.out⟩
end Go.Proofs.YtkpmcjfolncmmaaGreatDoor
namespace Go.Proofs.YtkpmcjfolncmmaaGreatDoor
open Go.RowKit
set_option maxHeartbeats 1000000 in
set_option maxRecDepth 100000 in
theorem draft_5 (d : DrV) (w : World) (h : DrAt w d) (hk : d.kind % 6 = 4) : Calls Tryz.prog 7 #[.agg (drCells d)] w (DrPost w) := by
  obtain ⟨kd, n0, n1, n2, n3, n4, g0, g1, g2, ba, nb, cb⟩ := d
  have H := aside h
  have b1 := h.kind
  have b2 := h.n0
  have b3 := h.n1
  have b4 := h.n2
  have b5 := h.n3
  have b6 := h.n4
  have b7 := h.g0
  have b8 := h.g1
  have b9 := h.g2
  dsimp only at hk b1 b2 b3 b4 b5 b6 b7 b8 b9
  clear h
  obtain ⟨w4, hw4⟩ : ∃ z, z = ((((w.alloc (.cells #[.int .u8 kd, .int .u16 n0, .int .u16 n1, .int .u16 n2, .int .u16 n3, .int .u16 n4, .int .u64 g0, .int .u64 g1, .int .u64 g2, .slice ba nb cb] 28)).alloc (.cells (recCells {}) 38)).alloc (.cells #[.int .u16 n0, .int .u16 n1, .int .u16 n2, .int .u16 n3, .int .u16 n4] 23)).alloc (.cells (recCells { kind := 5, tick := g2 / 2 }) 38)) := ⟨_, rfl⟩
  obtain ⟨D, hD⟩ : ∃ x, x = w.heap.size := ⟨_, rfl⟩
  obtain ⟨R, hR⟩ : ∃ x, x = w.heap.size + 1 := ⟨_, rfl⟩
  obtain ⟨N, hN⟩ : ∃ x, x = w.heap.size + 1 + 1 := ⟨_, rfl⟩
  obtain ⟨L, hL⟩ : ∃ x, x = w.heap.size + 1 + 1 + 1 := ⟨_, rfl⟩
  have H4 : DrIn w w4 D R N L ⟨kd, n0, n1, n2, n3, n4, g0, g1, g2, ba, nb, cb⟩ { kind := 5, tick := g2 / 2 } := by rw [hw4, hD, hR, hN, hL]; exact DrIn.begin_ H.out _
  have H4 := aside H4
  go_enter Tryz.func7, Tryz.ntmps7
  unfold drCells
  go_upto_region 2 with fail
  rw [zR]
  obtain ⟨w3, hw3⟩ : ∃ z, z = (((w.alloc (.cells #[.int .u8 kd, .int .u16 n0, .int .u16 n1, .int .u16 n2, .int .u16 n3, .int .u16 n4, .int .u64 g0, .int .u64 g1, .int .u64 g2, .slice ba nb cb] 28)).alloc (.cells (recCells {}) 38)).alloc (.cells #[.int .u16 n0, .int .u16 n1, .int .u16 n2, .int .u16 n3, .int .u16 n4] 23)) := ⟨_, rfl⟩
  rw [← hw3] at hw4 ⊢
  have s3 : w3.heap.size = w.heap.size + 1 + 1 + 1 := by rw [hw3]; simp
  have h3 : w3.heap[w.heap.size]? = some (.cells #[.int .u8 kd, .int .u16 n0, .int .u16 n1, .int .u16 n2, .int .u16 n3, .int .u16 n4, .int .u64 g0, .int .u64 g1, .int .u64 g2, .slice ba nb cb] 28 (0, 0)) := by
    rw [hw3]
    refine whole_new (whole_new (heap_new _ _) (new_alloc _ _)) (new_alloc _ _)
  have c0 : w3.cell? ⟨w.heap.size, 0, none⟩ = some (.int .u8 kd) := cell_whole h3 0
  have c8 : w3.cell? ⟨w.heap.size, 8, none⟩ = some (.int .u64 g2) := cell_whole h3 8
  clear h3
  have HD := aside hD
  have HR := aside hR
  have HN := aside hN
  have HL := aside hL
  clear hD hR hN hL
  have HST : Aside ((Instr.storeAt 38 (.pointer (some ⟨w.heap.size + 1 + 1 + 1, 0, none⟩)) (.agg (recCells { kind := 5, tick := g2 / 2 }))).run Tryz.prog (w3.alloc (.cells (recCells {}) 38)) = .ok () w4) := by
    rw [Aside, hw4, ← s3]
    exact run_storeAt_new' w3 38 (recCells {}) _ (by rw [recCells_size]; kernel_rfl) rfl (recCells_one _ rfl rfl rfl)
  clear hw3 hw4
  go_upto_region 3 with (first
    | (refine wpList_build_by rfl 38 _ rfl [(0, .int .i64 5), (4, .int .i64 (g2 / 2))] rfl _ (build_kt _ _ _) ?_)
    | (refine wpList_store_by rfl 38 _ _ rfl _ _ rfl rfl HST.out ?_)
    | fail)
  rw [← HL.out, ← HN.out, ← HR.out, ← HD.out]
  clear c0 c8 s3 HST
  have hkd := H4.out.hl.kind
  have m0 := H4.out.m0
  have l1 := H4.out.hl.round
  have f1 := H4.out.hl.free 1
  dsimp only at hkd m0 l1
  go_upto_region 17 with fail
  obtain ⟨rd, hrd⟩ : ∃ x, x = n0 % 16 := ⟨_, rfl⟩
  have hrb : 0 ≤ rd ∧ rd ≤ 15 := by omega
  rw [← hrd]
  obtain ⟨w5, hw5⟩ : ∃ z, z = w4.setCell ⟨L, 1, none⟩ (.int .i64 rd) := ⟨_, rfl⟩
  have H5 : DrIn w w5 D R N L ⟨kd, n0, n1, n2, n3, n4, g0, g1, g2, ba, nb, cb⟩ { kind := 5, round := rd, tick := g2 / 2 } := by rw [hw5]; exact H4.out.set 1 _ (H4.out.hl.setRound rd)
  have H5 := aside H5
  rw [← hw5]
  clear hw5 hrd H4 hkd m0 l1 f1
  have HTK : Aside (0 ≤ g2 / 2 ∧ g2 / 2 ≤ 9223372036854775807) := by rw [Aside]; omega
  obtain ⟨tk, htk⟩ : ∃ x, x = g2 / 2 := ⟨_, rfl⟩
  rw [← htk] at H5 HTK
  have hkd := H5.out.hl.kind
  have m1 := H5.out.m1
  have l40 := H5.out.hl.state
  have l41 := H5.out.hl.winner
  have l42 := H5.out.hl.price
  have f40 := H5.out.hl.free 40
  have f41 := H5.out.hl.free 41
  have f42 := H5.out.hl.free 42
  dsimp only at hkd m1 l40 l41 l42
  go_upto_region 35 with fail
  obtain ⟨w6, hw6⟩ : ∃ z, z = ((w5.setCell ⟨L, 40, none⟩ (.int .i64 3)).setCell ⟨L, 41, none⟩ (.int .i64 (-1))).setCell ⟨L, 42, none⟩ (.int .u64 0) := ⟨_, rfl⟩
  have H6 : DrIn w w6 D R N L ⟨kd, n0, n1, n2, n3, n4, g0, g1, g2, ba, nb, cb⟩ { kind := 5, round := rd, tick := tk, state := 3, winner := -1, price := 0 } := by
    rw [hw6]
    have h1 := H5.out.set 40 (.int .i64 3) (H5.out.hl.setState 3)
    have h2 := h1.set 41 (.int .i64 (-1)) (h1.hl.setWinner (-1))
    exact h2.set 42 (.int .u64 0) (h2.hl.setPrice 0)
  have H6 := aside H6
  rw [← hw6]
  clear hw6 H5 hkd m1 l40 l41 l42 f40 f41 f42
  have m1 := H6.out.m1
  dsimp only at m1
  by_cases hm : n1 % 3 = 0
  · have HO : Aside (mayB { kind := 5, round := rd, tick := tk, state := 3, winner := -1, price := 0 } = true ∧ RecD.ok { kind := 5, round := rd, tick := tk, state := 3, winner := -1, price := 0 }) := may5 _ _ _ _ _ HTK.out hrb (.inl ⟨rfl, rfl, rfl⟩)
    go_upto_region 37 with fail
    have hrg : w6.rangeAt L 0 (recCells { kind := 5, round := rd, tick := tk, state := 3, winner := -1, price := 0 }).toList := fun j v hv => by rw [Nat.zero_add, H6.out.hl.cell j, ← Array.getElem?_toList]; exact hv
    have HRG := aside hrg
    have hi1 : (Tryz.prog.info? 38).map (·.size) = some (recCells { kind := 5, round := rd, tick := tk, state := 3, winner := -1, price := 0 }).toList.length := by rw [Array.length_toList, recCells_size]; kernel_rfl
    have hi0 : (Tryz.prog.info? 38).map (·.size) = some (recCells { kind := 5, round := rd, tick := tk, state := 3, winner := -1, price := 0 }).size := by rw [recCells_size]; kernel_rfl
    have HRF : Aside (RecFrom w.heap.size w6 { kind := 5, round := rd, tick := tk, state := 3, winner := -1, price := 0 } ({ kind := 5, round := rd, tick := tk, state := 3, winner := -1, price := 0 } : RecD)) := ⟨.slice none 0 0, .slice none 0 0, .slice none 0 0, by simp only [RecD.toV, rep_getD], RowIF.nil _ _, RowLF.nil _ _, RowIF.nil _ _⟩
    have hone := HRF.out.one
    obtain ⟨wz, hwz⟩ : ∃ z, z = w6.setRow R (recCells { kind := 5, round := rd, tick := tk, state := 3, winner := -1, price := 0 }) := ⟨_, rfl⟩
    have HRZ : Aside (RecIn wz R { kind := 5, round := rd, tick := tk, state := 3, winner := -1, price := 0 }) := by rw [hwz]; exact H6.out.hr.setRow _
    have HKZ : Keeps (· ≠ R) w6 wz := by rw [hwz]; exact keeps_setRow w6 R _ (fun h => h rfl)
    have HBZ : Aside (Below w.heap.size w wz) := new_of_keeps H6.out.old HKZ H6.out.nR
    have HRFZ : Aside (RecFrom w.heap.size wz { kind := 5, round := rd, tick := tk, state := 3, winner := -1, price := 0 } _) := HRF.out.keepsT HKZ (fun k hb e => by subst e; exact row_not_rec hb H6.out.hr)
    have HWZ := aside hwz
    have HXR := aside H6.out.hr
    clear hrg hwz HKZ
    go_wp2_with (first
      | (refine wpList_load_midG (by rfl) _ _ rfl L 0 rfl _ _ HRG.out Tryz.underlying38 rfl hi1 (recCells { kind := 5, round := rd, tick := tk, state := 3, winner := -1, price := 0 }) (Array.toArray_toList) ?_)
      | (refine wpList_store_row rfl _ _ _ rfl R (recCells { kind := 5, round := rd, tick := tk, state := 3, winner := -1, price := 0 }) rfl rfl 38 _ HXR.out hi0 rfl hone ?_; rw [← HWZ.out])
      | fail)
    refine bodyPost_ret_by (dr_results HRZ.out _ rfl) rfl ?_
    exact ⟨_, _, rfl, HRFZ.out, HO.out.1, HO.out.2, HBZ.out⟩
  · have m2 := H6.out.m2
    have c6 := H6.out.c6
    have l40 := H6.out.hl.state
    have l41 := H6.out.hl.winner
    have l42 := H6.out.hl.price
    have f40 := H6.out.hl.free 40
    have f41 := H6.out.hl.free 41
    have f42 := H6.out.hl.free 42
    dsimp only at m2 c6 l40 l41 l42
    obtain ⟨wi, hwi⟩ : ∃ x, x = n2 % 8 := ⟨_, rfl⟩
    have hwb : 0 ≤ wi ∧ wi ≤ 7 := by omega
    obtain ⟨pr, hpr⟩ : ∃ x, x = g0 % 16777217 := ⟨_, rfl⟩
    have hpb : 0 ≤ pr ∧ pr ≤ 16777216 := by omega
    have h12 : n1 % 3 = 1 ∨ n1 % 3 = 2 := by omega
    go_upto_region 37 with fail
    obtain ⟨st, hst⟩ : ∃ x, x = wrap64 (2 + wrap64 (wrap64 (IntKind.u16.wrap ((n1 % 3).tdiv 2)) * 2)) := ⟨_, rfl⟩
    have hs24 : st = 2 ∨ st = 4 := by
      rw [hst]
      rcases h12 with h | h
      · rw [h]; exact Or.inl (by kernel_rfl)
      · rw [h]; exact Or.inr (by kernel_rfl)
    rw [← hst, ← hwi, ← hpr]
    obtain ⟨w7, hw7⟩ : ∃ z, z = ((w6.setCell ⟨L, 40, none⟩ (.int .i64 st)).setCell ⟨L, 41, none⟩ (.int .i64 wi)).setCell ⟨L, 42, none⟩ (.int .u64 pr) := ⟨_, rfl⟩
    have H7 : DrIn w w7 D R N L ⟨kd, n0, n1, n2, n3, n4, g0, g1, g2, ba, nb, cb⟩ { kind := 5, round := rd, tick := tk, state := st, winner := wi, price := pr } := by
      rw [hw7]
      have h1 := H6.out.set 40 (.int .i64 st) (H6.out.hl.setState st)
      have h2 := h1.set 41 (.int .i64 wi) (h1.hl.setWinner wi)
      exact h2.set 42 (.int .u64 pr) (h2.hl.setPrice pr)
    have H7 := aside H7
    rw [← hw7]
    have HO : Aside (mayB { kind := 5, round := rd, tick := tk, state := st, winner := wi, price := pr } = true ∧ RecD.ok { kind := 5, round := rd, tick := tk, state := st, winner := wi, price := pr }) := may5 _ _ _ _ _ HTK.out hrb (.inr ⟨hs24, hwb, hpb⟩)
    clear hw7 hst hwi hpr H6 m1 m2 c6 l40 l41 l42 f40 f41 f42 hs24 h12 hm
    have hrg : w7.rangeAt L 0 (recCells { kind := 5, round := rd, tick := tk, state := st, winner := wi, price := pr }).toList := fun j v hv => by rw [Nat.zero_add, H7.out.hl.cell j, ← Array.getElem?_toList]; exact hv
    have HRG := aside hrg
    have hi1 : (Tryz.prog.info? 38).map (·.size) = some (recCells { kind := 5, round := rd, tick := tk, state := st, winner := wi, price := pr }).toList.length := by rw [Array.length_toList, recCells_size]; kernel_rfl
    have hi0 : (Tryz.prog.info? 38).map (·.size) = some (recCells { kind := 5, round := rd, tick := tk, state := st, winner := wi, price := pr }).size := by rw [recCells_size]; kernel_rfl
    have HRF : Aside (RecFrom w.heap.size w7 { kind := 5, round := rd, tick := tk, state := st, winner := wi, price := pr } ({ kind := 5, round := rd, tick := tk, state := st, winner := wi, price := pr } : RecD)) := ⟨.slice none 0 0, .slice none 0 0, .slice none 0 0, by simp only [RecD.toV, rep_getD], RowIF.nil _ _, RowLF.nil _ _, RowIF.nil _ _⟩
    have hone := HRF.out.one
    obtain ⟨wz, hwz⟩ : ∃ z, z = w7.setRow R (recCells { kind := 5, round := rd, tick := tk, state := st, winner := wi, price := pr }) := ⟨_, rfl⟩
    have HRZ : Aside (RecIn wz R { kind := 5, round := rd, tick := tk, state := st, winner := wi, price := pr }) := by rw [hwz]; exact H7.out.hr.setRow _
    have HKZ : Keeps (· ≠ R) w7 wz := by rw [hwz]; exact keeps_setRow w7 R _ (fun h => h rfl)
    have HBZ : Aside (Below w.heap.size w wz) := new_of_keeps H7.out.old HKZ H7.out.nR
    have HRFZ : Aside (RecFrom w.heap.size wz { kind := 5, round := rd, tick := tk, state := st, winner := wi, price := pr } _) := HRF.out.keepsT HKZ (fun k hb e => by subst e; exact row_not_rec hb H7.out.hr)
    have HWZ := aside hwz
    have HXR := aside H7.out.hr
    clear hrg hwz HKZ
    go_wp2_with (first
      | (refine wpList_load_midG (by rfl) _ _ rfl L 0 rfl _ _ HRG.out Tryz.underlying38 rfl hi1 (recCells { kind := 5, round := rd, tick := tk, state := st, winner := wi, price := pr }) (Array.toArray_toList) ?_)
      | (refine wpList_store_row rfl _ _ _ rfl R (recCells { kind := 5, round := rd, tick := tk, state := st, winner := wi, price := pr }) rfl rfl 38 _ HXR.out hi0 rfl hone ?_; rw [← HWZ.out])
      | fail)
    refine bodyPost_ret_by (dr_results HRZ.out _ rfl) rfl ?_
    exact ⟨_, _, rfl, HRFZ.out, HO.out.1, HO.out.2, HBZ.out⟩
end Go.Proofs.YtkpmcjfolncmmaaGreatDoor
namespace Go.Proofs.YtkpmcjfolncmmaaGreatDoor
open Go.RowKit
set_option maxHeartbeats 1000000 in
set_option maxRecDepth 100000 in
theorem draft_6 (d : DrV) (w : World) (h : DrAt w d) (hk : d.kind % 6 = 5) : Calls Tryz.prog 7 #[.agg (drCells d)] w (DrPost w) := by
  obtain ⟨kd, n0, n1, n2, n3, n4, g0, g1, g2, ba, nb, cb⟩ := d
  have H := aside h
  have b1 := h.kind
  have b2 := h.n0
  have b3 := h.n1
  have b4 := h.n2
  have b5 := h.n3
  have b6 := h.n4
  have b7 := h.g0
  have b8 := h.g1
  have b9 := h.g2
  dsimp only at hk b1 b2 b3 b4 b5 b6 b7 b8 b9
  clear h
  obtain ⟨w4, hw4⟩ : ∃ z, z = ((((w.alloc (.cells #[.int .u8 kd, .int .u16 n0, .int .u16 n1, .int .u16 n2, .int .u16 n3, .int .u16 n4, .int .u64 g0, .int .u64 g1, .int .u64 g2, .slice ba nb cb] 28)).alloc (.cells (recCells {}) 38)).alloc (.cells #[.int .u16 n0, .int .u16 n1, .int .u16 n2, .int .u16 n3, .int .u16 n4] 23)).alloc (.cells (recCells { kind := 6, tick := g2 / 2 }) 38)) := ⟨_, rfl⟩
  obtain ⟨D, hD⟩ : ∃ x, x = w.heap.size := ⟨_, rfl⟩
  obtain ⟨R, hR⟩ : ∃ x, x = w.heap.size + 1 := ⟨_, rfl⟩
  obtain ⟨N, hN⟩ : ∃ x, x = w.heap.size + 1 + 1 := ⟨_, rfl⟩
  obtain ⟨L, hL⟩ : ∃ x, x = w.heap.size + 1 + 1 + 1 := ⟨_, rfl⟩
  have H4 : DrIn w w4 D R N L ⟨kd, n0, n1, n2, n3, n4, g0, g1, g2, ba, nb, cb⟩ { kind := 6, tick := g2 / 2 } := by rw [hw4, hD, hR, hN, hL]; exact DrIn.begin_ H.out _
  have H4 := aside H4
  go_enter Tryz.func7, Tryz.ntmps7
  unfold drCells
  go_upto_region 2 with fail
  rw [zR]
  obtain ⟨w3, hw3⟩ : ∃ z, z = (((w.alloc (.cells #[.int .u8 kd, .int .u16 n0, .int .u16 n1, .int .u16 n2, .int .u16 n3, .int .u16 n4, .int .u64 g0, .int .u64 g1, .int .u64 g2, .slice ba nb cb] 28)).alloc (.cells (recCells {}) 38)).alloc (.cells #[.int .u16 n0, .int .u16 n1, .int .u16 n2, .int .u16 n3, .int .u16 n4] 23)) := ⟨_, rfl⟩
  rw [← hw3] at hw4 ⊢
  have s3 : w3.heap.size = w.heap.size + 1 + 1 + 1 := by rw [hw3]; simp
  have h3 : w3.heap[w.heap.size]? = some (.cells #[.int .u8 kd, .int .u16 n0, .int .u16 n1, .int .u16 n2, .int .u16 n3, .int .u16 n4, .int .u64 g0, .int .u64 g1, .int .u64 g2, .slice ba nb cb] 28 (0, 0)) := by
    rw [hw3]
    refine whole_new (whole_new (heap_new _ _) (new_alloc _ _)) (new_alloc _ _)
  have c0 : w3.cell? ⟨w.heap.size, 0, none⟩ = some (.int .u8 kd) := cell_whole h3 0
  have c8 : w3.cell? ⟨w.heap.size, 8, none⟩ = some (.int .u64 g2) := cell_whole h3 8
  clear h3
  have HD := aside hD
  have HR := aside hR
  have HN := aside hN
  have HL := aside hL
  clear hD hR hN hL
  have HST : Aside ((Instr.storeAt 38 (.pointer (some ⟨w.heap.size + 1 + 1 + 1, 0, none⟩)) (.agg (recCells { kind := 6, tick := g2 / 2 }))).run Tryz.prog (w3.alloc (.cells (recCells {}) 38)) = .ok () w4) := by
    rw [Aside, hw4, ← s3]
    exact run_storeAt_new' w3 38 (recCells {}) _ (by rw [recCells_size]; kernel_rfl) rfl (recCells_one _ rfl rfl rfl)
  clear hw3 hw4
  go_upto_region 3 with (first
    | (refine wpList_build_by rfl 38 _ rfl [(0, .int .i64 6), (4, .int .i64 (g2 / 2))] rfl _ (build_kt _ _ _) ?_)
    | (refine wpList_store_by rfl 38 _ _ rfl _ _ rfl rfl HST.out ?_)
    | fail)
  rw [← HL.out, ← HN.out, ← HR.out, ← HD.out]
  clear c0 c8 s3 HST
  have hkd := H4.out.hl.kind
  dsimp only at hkd
  go_upto_region 37 with fail
  have HTK : Aside (0 ≤ g2 / 2 ∧ g2 / 2 ≤ 9223372036854775807) := by rw [Aside]; omega
  have hrg : w4.rangeAt L 0 (recCells { kind := 6, tick := g2 / 2 }).toList := fun j v hv => by rw [Nat.zero_add, H4.out.hl.cell j, ← Array.getElem?_toList]; exact hv
  have HRG := aside hrg
  have hi1 : (Tryz.prog.info? 38).map (·.size) = some (recCells { kind := 6, tick := g2 / 2 }).toList.length := by rw [Array.length_toList, recCells_size]; kernel_rfl
  have hi0 : (Tryz.prog.info? 38).map (·.size) = some (recCells { kind := 6, tick := g2 / 2 }).size := by rw [recCells_size]; kernel_rfl
  have HRF : Aside (RecFrom w.heap.size w4 { kind := 6, tick := g2 / 2 } ({ kind := 6, tick := g2 / 2 } : RecD)) := ⟨.slice none 0 0, .slice none 0 0, .slice none 0 0, by simp only [RecD.toV, rep_getD], RowIF.nil _ _, RowLF.nil _ _, RowIF.nil _ _⟩
  have hone := HRF.out.one
  obtain ⟨wz, hwz⟩ : ∃ z, z = w4.setRow R (recCells { kind := 6, tick := g2 / 2 }) := ⟨_, rfl⟩
  have HRZ : Aside (RecIn wz R { kind := 6, tick := g2 / 2 }) := by rw [hwz]; exact H4.out.hr.setRow _
  have HKZ : Keeps (· ≠ R) w4 wz := by rw [hwz]; exact keeps_setRow w4 R _ (fun h => h rfl)
  have HBZ : Aside (Below w.heap.size w wz) := new_of_keeps H4.out.old HKZ H4.out.nR
  have HRFZ : Aside (RecFrom w.heap.size wz { kind := 6, tick := g2 / 2 } _) := HRF.out.keepsT HKZ (fun k hb e => by subst e; exact row_not_rec hb H4.out.hr)
  have HWZ := aside hwz
  have HXR := aside H4.out.hr
  clear hrg hwz HKZ
  go_wp2_with (first
    | (refine wpList_load_midG (by rfl) _ _ rfl L 0 rfl _ _ HRG.out Tryz.underlying38 rfl hi1 (recCells { kind := 6, tick := g2 / 2 }) (Array.toArray_toList) ?_)
    | (refine wpList_store_row rfl _ _ _ rfl R (recCells { kind := 6, tick := g2 / 2 }) rfl rfl 38 _ HXR.out hi0 rfl hone ?_; rw [← HWZ.out])
    | fail)
  refine bodyPost_ret_by (dr_results HRZ.out _ rfl) rfl ?_
  exact ⟨_, _, rfl, HRFZ.out, may6 _ HTK.out.1, ok6 _ HTK.out, HBZ.out⟩
end Go.Proofs.YtkpmcjfolncmmaaGreatDoor
