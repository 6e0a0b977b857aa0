/- consignref24's ints and lots, walked. -/
import Derived.Test.YtfnekbfcndkjeaaGreatDoorSMay2
import Derived.Test.YtfnekbfcndkjeaaGreatDoorSPln5
import Derived.Test.YtfnekbfcndkjeaaGreatDoorSBld
set_option linter.all false
namespace Go.Proofs.YtfnekbfcndkjeaaGreatDoor
open Go.RowKit
def MayMid (d : RecD) (w : World) (L : Nat) (s : Value) (wx : World) : Prop :=
  ∃ rv', s = .bool (rightB d) ∧ RecIn wx L rv' ∧ RecAt wx rv' (restOf d) ∧ Below w.heap.size w wx
theorem rest1 {d : RecD} (h : d.kind = 1) : restOf d = { d with carriers := 0, commit := 0, reveal := 0, scheme := 0, lots := [], owners := [] } := by rw [restOf, if_pos h]
theorem rest2 {d : RecD} (h : d.kind = 2) : restOf d = { d with lot := 0, barred := [] } := by rw [restOf, if_neg (by omega), if_pos h]
theorem rest3 {d : RecD} (h : d.kind = 3) : restOf d = { d with carrier := 0, dig := List.replicate 32 0 } := by rw [restOf, if_neg (by omega), if_neg (by omega), if_pos h]
theorem rest4 {d : RecD} (h : d.kind = 4) : restOf d = { d with carrier := 0, bid := 0, nonce := 0 } := by rw [restOf, if_neg (by omega), if_neg (by omega), if_neg (by omega), if_pos h]
theorem rest5 {d : RecD} (h : d.kind = 5) : restOf d = { d with state := 0, winner := 0, price := 0 } := by rw [restOf, if_neg (by omega), if_neg (by omega), if_neg (by omega), if_neg (by omega), if_pos h]
theorem rest6 {d : RecD} (h : d.kind = 6) : restOf d = d := by rw [restOf, if_neg (by omega), if_neg (by omega), if_neg (by omega), if_neg (by omega), if_neg (by omega)]
theorem rightB1 {d : RecD} (h : d.kind = 1) : rightB d = sceneD d := by rw [rightB, if_pos h]
theorem rightB2 {d : RecD} (h : d.kind = 2) : rightB d = ((baseB d && withinB d.lot 0 15) && allTo (riseAt d.barred) d.barred.length) := by rw [rightB, if_neg (by omega), if_pos h]
theorem rightB3 {d : RecD} (h : d.kind = 3) : rightB d = (baseB d && withinB d.carrier 0 7) := by rw [rightB, if_neg (by omega), if_neg (by omega), if_pos h]
theorem rightB4 {d : RecD} (h : d.kind = 4) : rightB d = ((baseB d && withinB d.carrier 0 7) && decide (d.bid ≤ 4294967296)) := by rw [rightB, if_neg (by omega), if_neg (by omega), if_neg (by omega), if_pos h]
theorem rightB5 {d : RecD} (h : d.kind = 5) : rightB d = (baseB d && toldB d.state d.winner d.price) := by rw [rightB, if_neg (by omega), if_neg (by omega), if_neg (by omega), if_neg (by omega), if_pos h]
theorem rightB6 {d : RecD} (h : d.kind = 6) : rightB d = (baseB d && decide (d.round = 0)) := by rw [rightB, if_neg (by omega), if_neg (by omega), if_neg (by omega), if_neg (by omega), if_neg (by omega), if_pos h]
structure EOk (e : RecD) : Prop where
  len : e.dig.length = 32
  lot : -9223372036854775808 ≤ e.lot ∧ e.lot ≤ 9223372036854775807
  carrier : -9223372036854775808 ≤ e.carrier ∧ e.carrier ≤ 9223372036854775807
  carriers : -9223372036854775808 ≤ e.carriers ∧ e.carriers ≤ 9223372036854775807
  commit : -9223372036854775808 ≤ e.commit ∧ e.commit ≤ 9223372036854775807
  reveal : -9223372036854775808 ≤ e.reveal ∧ e.reveal ≤ 9223372036854775807
  scheme : -9223372036854775808 ≤ e.scheme ∧ e.scheme ≤ 9223372036854775807
  bid : 0 ≤ e.bid ∧ e.bid ≤ 18446744073709551615
  nonce : 0 ≤ e.nonce ∧ e.nonce ≤ 18446744073709551615
  rows : e.barred.length + e.lots.length + e.owners.length ≤ 1099511627776
theorem RecD.ok.rest {d : RecD} (h : d.ok) : EOk (restOf d) := by
  have hr := h.rows
  unfold restOf
  split
  · exact ⟨h.len, h.lot, h.carrier, by simp, by simp, by simp, by simp, h.bid, h.nonce, by simp; omega⟩
  split
  · exact ⟨h.len, by simp, h.carrier, h.carriers, h.commit, h.reveal, h.scheme, h.bid, h.nonce, by simp; omega⟩
  split
  · exact ⟨by simp, h.lot, by simp, h.carriers, h.commit, h.reveal, h.scheme, h.bid, h.nonce, h.rows⟩
  split
  · exact ⟨h.len, h.lot, by simp, h.carriers, h.commit, h.reveal, h.scheme, by simp, by simp, h.rows⟩
  split
  · exact ⟨h.len, h.lot, h.carrier, h.carriers, h.commit, h.reveal, h.scheme, h.bid, h.nonce, h.rows⟩
  · exact ⟨h.len, h.lot, h.carrier, h.carriers, h.commit, h.reveal, h.scheme, h.bid, h.nonce, h.rows⟩
def sixB (e : RecD) : Bool := decide (e.lot = 0 ∧ e.carrier = 0 ∧ e.carriers = 0 ∧ e.commit = 0 ∧ e.reveal = 0 ∧ e.scheme = 0)
def twoB (e : RecD) : Bool := decide (e.bid = 0 ∧ e.nonce = 0)
def zeroB (e : RecD) : Bool := sixB e && (twoB e && decide (e.barred.length + e.lots.length + e.owners.length = 0))
def digB (e : RecD) : Bool := decide (∀ j ∈ List.range 32, e.dig.getD j 0 = 0)
theorem EOk.six {e : RecD} (h : EOk e) : (bits .or .i64 (bits .or .i64 (bits .or .i64 (bits .or .i64 (bits .or .i64 e.lot e.carrier) e.carriers) e.commit) e.reveal) e.scheme == 0) = sixB e := by
  rw [Bool.eq_iff_iff, beq_iff_eq, sixB, decide_eq_true_eq]
  rw [or64 _ _ (or64_in _ _) h.scheme, or64 _ _ (or64_in _ _) h.reveal, or64 _ _ (or64_in _ _) h.commit, or64 _ _ (or64_in _ _) h.carriers, or64 _ _ h.lot h.carrier]
  simp only [and_assoc]
theorem EOk.two {e : RecD} (h : EOk e) : (bits .or .u64 e.bid e.nonce == 0) = twoB e := by
  rw [Bool.eq_iff_iff, beq_iff_eq, twoB, decide_eq_true_eq, oru64 _ _ h.bid h.nonce]
theorem range_get (f : Nat → Int) (j : Nat) (hj : j < 32) : ((List.range 32).map fun j => Value.int .u8 (f j)).toArray[j]? = some (.int .u8 (f j)) := by
  rw [List.getElem?_toArray, List.getElem?_map, List.getElem?_range hj]
  rfl
theorem digs_zero (l : List Int) (hl : l.length = 32) : (∀ j ∈ List.range 32, l.getD j 0 = 0) ↔ l = List.replicate 32 0 := by
  constructor
  · intro h
    apply List.ext_getElem (by simp [hl])
    intro i h1 h2
    have := h i (List.mem_range.2 (by omega))
    rw [List.getD_eq_getElem?_getD, List.getElem?_eq_getElem h1] at this
    rw [List.getElem_replicate]
    exact this
  · rintro rfl j _
    exact rep_getD 32 j
theorem empty_eq {e : RecD} (hl : e.dig.length = 32) : emptyD e = (zeroB e && (digB e && (e.state == 0 && (e.winner == 0 && e.price == 0)))) := by
  rw [Bool.eq_iff_iff]
  simp only [emptyD, zeroB, sixB, twoB, digB, Bool.and_eq_true, decide_eq_true_eq, beq_iff_eq, digs_zero _ hl]
  rcases e with ⟨kind, round, lot, carrier, tick, barred, dig, bid, nonce, state, winner, price, carriers, commit, reveal, scheme, lots, owners⟩
  simp only [RecD.mk.injEq, true_and, and_true]
  constructor
  · rintro ⟨h1, h2, h3, h4, h5, h6, h7, h8, h9, h10, h11, h12, h13, h14, h15⟩
    subst h3 h14 h15
    exact ⟨⟨⟨h1, h2, h10, h11, h12, h13⟩, ⟨h5, h6⟩, rfl⟩, h4, h7, h8, h9⟩
  · rintro ⟨⟨⟨h1, h2, h10, h11, h12, h13⟩, ⟨h5, h6⟩, hn⟩, h4, h7, h8, h9⟩
    have e1 : barred = [] := List.eq_nil_of_length_eq_zero (by omega)
    have e2 : lots = [] := List.eq_nil_of_length_eq_zero (by omega)
    have e3 : owners = [] := List.eq_nil_of_length_eq_zero (by omega)
    exact ⟨h1, h2, e1, h4, h5, h6, h7, h8, h9, h10, h11, h12, h13, e2, e3⟩
theorem Tryz.structOut : Tryz.prog.underlying 46 = some (.struct (Tryz.prog.fieldsOf 46)) := by kernel_rfl
theorem Tryz.heldOut : Tryz.prog.stoodInHeld 46 = false := by kernel_rfl
theorem eqOut (a b c x y z : Int) (w : World) : (binOp .eql 46 (.agg #[.int .i64 a, .int .i64 b, .int .u64 c]) (.agg #[.int .i64 x, .int .i64 y, .int .u64 z])).run Tryz.prog w = .ok (.bool (a == x && (b == y && c == z))) w := by
  have u3 := Tryz.underlying3
  have a3 := Tryz.isAgg3
  have z3 := Tryz.sizeOf3
  have u23 := Tryz.underlying44
  have a23 := Tryz.isAgg44
  have z23 := Tryz.sizeOf44
  rw [run_eql_struct, show (10000 : Nat) = 9999 + 1 from rfl, run_equalIn_agg w 9999 46 _ _ Tryz.structOut Tryz.heldOut]
  simp only [Program.fieldsOf, Tryz.underlying46]
  go_simp
  by_cases h1 : a = x <;> by_cases h2 : b = y <;> by_cases h3 : c = z <;> simp [h1, h2, h3]
end Go.Proofs.YtfnekbfcndkjeaaGreatDoor
namespace Go.Proofs.YtfnekbfcndkjeaaGreatDoor
open Vk (vickOf)
theorem mayR {d : RecD} (h : mayB d = true) : rightB d = true ∧ restOf d = { kind := (restOf d).kind, round := (restOf d).round, tick := (restOf d).tick } := by
  rw [mayB, Bool.and_eq_true] at h
  exact ⟨h.1, by have := h.2; rw [emptyD, decide_eq_true_eq] at this; exact this⟩
structure Scn (d : RecD) : Prop where
  carriers : 1 ≤ d.carriers ∧ d.carriers ≤ 8
  commit : 1 ≤ d.commit ∧ d.commit ≤ 64
  reveal : 1 ≤ d.reveal ∧ d.reveal ≤ 64
  scheme : 0 ≤ d.scheme ∧ d.scheme ≤ 1
  nlots : d.lots.length ≤ 16
  nown : d.owners.length ≤ 64
  lots : ∀ k, k < d.lots.length → (0 ≤ (d.lots.getD k (0, 0)).1 ∧ (d.lots.getD k (0, 0)).1 ≤ 63) ∧ 0 ≤ (d.lots.getD k (0, 0)).2 ∧ (d.lots.getD k (0, 0)).2 ≤ 16777216
  own : ∀ k, k < d.owners.length → 0 ≤ d.owners.getD k 0 ∧ d.owners.getD k 0 ≤ 7
  tick : d.tick = 0
  round : d.round = 0
  barred : d.barred = []
theorem may_scn {d : RecD} (h : mayB d = true) (hk : d.kind = 1) : Scn d := by
  obtain ⟨h1, h2⟩ := mayR h
  rw [rightB1 hk] at h1
  rw [rest1 hk] at h2
  have hb := congrArg RecD.barred h2
  simp only [sceneD, Bool.and_eq_true, allTo_iff, withinB, decide_eq_true_eq] at h1
  obtain ⟨⟨⟨⟨⟨c1, c2, c3, c4, c5, c6⟩, c7⟩, c8⟩, c9⟩, c10⟩ := h1
  refine ⟨c1, c2, c3, c4, by omega, by omega, fun k hk => ?_, fun k hk => ?_, c9, c10, hb⟩
  · have := c7 k hk
    simp only [lotAt, lotB, withinB, Bool.and_eq_true, decide_eq_true_eq] at this
    exact this
  · have := c8 k hk
    simp only [inAt, withinB, Bool.and_eq_true, decide_eq_true_eq] at this
    exact this
theorem may_base {d : RecD} (h : mayB d = true) : 0 ≤ d.tick ∧ 0 ≤ d.round ∧ d.round ≤ 15 := by
  have hk := may_kind h
  obtain ⟨h1, h2⟩ := mayR h
  have h6 : d.kind = 1 ∨ d.kind = 2 ∨ d.kind = 3 ∨ d.kind = 4 ∨ d.kind = 5 ∨ d.kind = 6 := by omega
  rcases h6 with e | e | e | e | e | e
  · have S := may_scn h e
    have := S.tick
    have := S.round
    omega
  · rw [rightB2 e] at h1; simp only [baseB, withinB, Bool.and_eq_true, decide_eq_true_eq] at h1; omega
  · rw [rightB3 e] at h1; simp only [baseB, withinB, Bool.and_eq_true, decide_eq_true_eq] at h1; omega
  · rw [rightB4 e] at h1; simp only [baseB, withinB, Bool.and_eq_true, decide_eq_true_eq] at h1; omega
  · rw [rightB5 e] at h1; simp only [baseB, withinB, Bool.and_eq_true, decide_eq_true_eq] at h1; omega
  · rw [rightB6 e] at h1; simp only [baseB, withinB, Bool.and_eq_true, decide_eq_true_eq] at h1; omega
theorem rise_bound {xs : List Int} (h : ∀ k, k < xs.length → riseAt xs k = true) : ∀ k, k < xs.length → (k : Int) ≤ xs.getD k 0 ∧ 0 ≤ xs.getD k 0 ∧ xs.getD k 0 ≤ 7
  | 0, hk => by
    have := h 0 hk
    simp only [riseAt, withinB, Bool.and_eq_true, decide_eq_true_eq] at this
    omega
  | k + 1, hk => by
    have ih := rise_bound h k (by omega)
    have := h (k + 1) hk
    simp only [riseAt, withinB, Bool.and_eq_true, Bool.or_eq_true, decide_eq_true_eq, Nat.add_sub_cancel] at this
    omega
structure Opr (d : RecD) : Prop where
  lot : 0 ≤ d.lot ∧ d.lot ≤ 15
  bar : ∀ k, k < d.barred.length → 0 ≤ d.barred.getD k 0 ∧ d.barred.getD k 0 ≤ 7
  nbar : d.barred.length ≤ 8
  lots : d.lots = []
  owners : d.owners = []
theorem may_opr {d : RecD} (h : mayB d = true) (hk : d.kind = 2) : Opr d := by
  obtain ⟨h1, h2⟩ := mayR h
  rw [rightB2 hk] at h1
  rw [rest2 hk] at h2
  have hl := congrArg RecD.lots h2
  have hw := congrArg RecD.owners h2
  simp only [baseB, withinB, Bool.and_eq_true, allTo_iff, decide_eq_true_eq] at h1
  have hb := rise_bound h1.2
  refine ⟨h1.1.2, fun k hk => (hb k hk).2, ?_, hl, hw⟩
  by_cases h0 : d.barred.length = 0
  · omega
  · have := hb (d.barred.length - 1) (by omega)
    omega
theorem may_carr {d : RecD} (h : mayB d = true) (hk : d.kind = 3 ∨ d.kind = 4) : 0 ≤ d.carrier ∧ d.carrier ≤ 7 := by
  obtain ⟨h1, _⟩ := mayR h
  rcases hk with hk | hk
  · rw [rightB3 hk] at h1; simp only [baseB, withinB, Bool.and_eq_true, decide_eq_true_eq] at h1; omega
  · rw [rightB4 hk] at h1; simp only [baseB, withinB, Bool.and_eq_true, decide_eq_true_eq] at h1; omega
theorem getD_mem_int (l : List Int) (x : Int) : x ∈ l ↔ ∃ k, k < l.length ∧ l.getD k 0 = x := by
  rw [List.mem_iff_getElem?]
  constructor
  · rintro ⟨k, h⟩
    have hk := (List.getElem?_eq_some_iff.1 h).1
    exact ⟨k, hk, by rw [List.getD_eq_getElem?_getD, h]; rfl⟩
  · rintro ⟨k, hk, h⟩
    exact ⟨k, by rw [List.getElem?_eq_getElem hk]; rw [List.getD_eq_getElem?_getD, List.getElem?_eq_getElem hk] at h; exact congrArg some h⟩
theorem lapseTo_length (n : Nat) (l : List Int) : (lapseTo n l).length = l.length := by
  unfold lapseTo
  rw [List.length_append, List.length_map, List.length_take, List.length_drop]
  omega
theorem step_cases {opf : List Int → RecD → Bool} {st st' : MSt} {d : RecD} (h : stepM opf st d = some st') :
    (d.kind = 1 ∧ BeginP d ∧ st' = beginS st d) ∨ (d.kind = 2 ∧ OpensP st d ∧ st' = opensS st d) ∨
    (d.kind = 3 ∧ ∃ o, st.opn = some o ∧ CommitsP st o d ∧ st' = commitsS st o d) ∨ (d.kind = 4 ∧ ∃ o, st.opn = some o ∧ RevealsP opf st o d ∧ st' = revealsS st o d) ∨
    (d.kind = 5 ∧ ∃ o, st.opn = some o ∧ ClosesP st o d ∧ st' = closesS st o d) ∨ ((¬ d.kind = 1 ∧ ¬ d.kind = 2 ∧ ¬ d.kind = 3 ∧ ¬ d.kind = 4 ∧ ¬ d.kind = 5) ∧ EndsP st d ∧ st' = endsS st) := by
  unfold stepM at h
  split at h
  · rename_i hk
    split at h
    · rename_i hp; exact .inl ⟨hk, hp, (Option.some.inj h).symm⟩
    · cases h
  split at h
  · rename_i _ hk
    split at h
    · rename_i hp; exact .inr (.inl ⟨hk, hp, (Option.some.inj h).symm⟩)
    · cases h
  split at h
  · rename_i _ _ hk
    split at h
    · cases h
    · rename_i o ho
      split at h
      · rename_i hp; exact .inr (.inr (.inl ⟨hk, o, ho, hp, (Option.some.inj h).symm⟩))
      · cases h
  split at h
  · rename_i _ _ _ hk
    split at h
    · cases h
    · rename_i o ho
      split at h
      · rename_i hp; exact .inr (.inr (.inr (.inl ⟨hk, o, ho, hp, (Option.some.inj h).symm⟩)))
      · cases h
  split at h
  · rename_i _ _ _ _ hk
    split at h
    · cases h
    · rename_i o ho
      split at h
      · rename_i hp; exact .inr (.inr (.inr (.inr (.inl ⟨hk, o, ho, hp, (Option.some.inj h).symm⟩))))
      · cases h
  · rename_i h1 h2 h3 h4 h5
    split at h
    · rename_i hp; exact .inr (.inr (.inr (.inr (.inr ⟨⟨h1, h2, h3, h4, h5⟩, hp, (Option.some.inj h).symm⟩))))
    · cases h
theorem take_cases {opf : List Int → RecD → Bool} {st : MSt} {d : RecD} (P : Int × MSt → Prop) (h15 : mayB d = false → P (15, st)) (h22 : mayB d = true → P (22, st))
    (h0 : ∀ st', mayB d = true → HereP st d → stepM opf st d = some st' → P (0, { st' with tick := d.tick })) : P (takeM opf st d) := by
  unfold takeM
  split
  · rename_i hm
    split
    · rename_i hh
      split
      · rename_i st' hs; exact h0 st' hm hh hs
      · exact h22 hm
    · exact h22 hm
  · rename_i hm
    exact h15 (by simpa using hm)
theorem wf_empty : MSt.Wf {} := by
  refine ⟨rfl, fun _ => ⟨rfl, rfl, rfl, rfl, rfl⟩, ?_, ?_, ?_, ?_, ?_, ?_, ?_, ?_, ?_, ?_, ?_, ?_⟩ <;> simp
theorem vickOf_winner (bs : List (Int × Int)) (r : Int) (h : (vickOf bs r).1 = 2) : ∃ b ∈ bs, (vickOf bs r).2.1 = b.1 := by
  have hm := fun x => (Vk.mem_rankOf bs x).1
  unfold vickOf Vk.ofR at h ⊢
  cases hr : Vk.rankOf bs with
  | nil => rw [hr] at h; exact absurd h (show ¬ ((3 : Int) = 2) by decide)
  | cons x l =>
    rw [hr] at h hm
    have hx := hm x (by simp)
    simp only at h ⊢
    split at h
    · exact absurd h (show ¬ ((3 : Int) = 2) by decide)
    · rename_i hlt
      rw [if_neg hlt]
      exact ⟨bs[x], List.getElem_mem hx, by rw [getElem!_pos bs x hx]⟩
theorem mem_bidsL (f : Int → Option Int) (b : Int × Int) : ∀ n : Nat, b ∈ bidsL f n ↔ (0 ≤ b.1 ∧ b.1 < n) ∧ f b.1 = some b.2
  | 0 => by simp [bidsL]; omega
  | n + 1 => by
    rw [bidsL, List.mem_append, mem_bidsL f b n]
    cases hf : f n with
    | none =>
      simp only [List.not_mem_nil, or_false]
      constructor
      · rintro ⟨h1, h2⟩; exact ⟨by omega, h2⟩
      · rintro ⟨h1, h2⟩
        refine ⟨⟨h1.1, ?_⟩, h2⟩
        rcases Int.lt_or_le b.1 n with h | h
        · exact h
        · rw [show b.1 = n by omega, hf] at h2; cases h2
    | some v =>
      simp only [List.mem_singleton]
      constructor
      · rintro (⟨h1, h2⟩ | rfl)
        · exact ⟨by omega, h2⟩
        · exact ⟨by simp only; omega, hf⟩
      · rintro ⟨h1, h2⟩
        rcases Int.lt_or_le b.1 n with h | h
        · exact .inl ⟨⟨h1.1, h⟩, h2⟩
        · have e : b.1 = n := by omega
          rw [e, hf] at h2
          exact .inr (Prod.ext e (Option.some.inj h2).symm)
theorem wins_in {st : MSt} {o : Opn} {d : RecD} (hw : st.Wf) (hp : ClosesP st o d) (h2 : d.state = 2) : 0 ≤ d.winner ∧ d.winner < st.scene.carriers := by
  have h := hp.2.2
  unfold wantM at h
  simp only [h2, show ¬ ((2 : Int) = 4) by decide, and_false, if_false] at h
  have hc := hw.carr
  obtain ⟨b, hb, e⟩ := vickOf_winner _ _ (congrArg Prod.fst h)
  have e2 : d.winner = b.1 := by rw [← e, h]
  have := ((mem_bidsL _ _ _).1 hb).1
  omega
theorem take_wf {opf : List Int → RecD → Bool} {st : MSt} {d : RecD} (hw : st.Wf) (ho : d.ok) : (takeM opf st d).2.Wf := by
  refine take_cases (P := fun x => x.2.Wf) (fun _ => hw) (fun _ => hw) fun st' hm hh hs => ?_
  have hb := may_base hm
  have hkd := may_kind hm
  have htk := ho.tick
  obtain ⟨he, hx, ht⟩ := hh
  rcases step_cases hs with ⟨hk, hp, rfl⟩ | ⟨hk, hp, rfl⟩ | ⟨hk, o, hop, hp, rfl⟩ | ⟨hk, o, hop, hp, rfl⟩ | ⟨hk, o, hop, hp, rfl⟩ | ⟨_, hp, rfl⟩
  · have S := may_scn hm hk
    have h0 : st.scene.kind = 0 := by
      by_cases h : st.scene.kind = 0
      · exact h
      · exact absurd (show decide (st.scene.kind ≠ 0) = decide (d.kind = 1) by rw [decide_eq_true h, decide_eq_true hk]) hx
    obtain ⟨f1, f2, f3, f4, f5⟩ := hw.fresh h0
    refine ⟨by simp [beginS], fun h => ?_, fun k hk' => ?_, fun k hk' => ?_, S.nlots, S.nown, by have := S.carriers; simp only [beginS]; omega, by have := S.commit; simp only [beginS]; omega, by have := S.reveal; simp only [beginS]; omega, fun o h => ?_, ⟨hb.1, htk.2⟩, fun x hx => ?_, .inr hk, ?_⟩
    · exact absurd (show d.kind = 0 from h) (by omega)
    · exact ⟨(S.lots k hk').1.1, (hp.1 k hk').2⟩
    · exact (S.lots k hk').2
    · have : st.opn = some o := h
      rw [f3] at this; cases this
    · obtain ⟨k, hk1, rfl⟩ := (getD_mem_int d.owners x).1 hx
      exact ⟨(S.own k hk1).1, hp.2 k hk1⟩
    · show st.barred.length ≤ 8
      rw [f5]; simp
  · have O := may_opr hm hk
    obtain ⟨p1, p2, p3, p4, p5, p6, p7, p8⟩ := hp
    refine ⟨by simp only [opensS]; rw [List.length_set, lapseTo_length]; exact hw.lens, fun h => ?_, hw.reqs, hw.resv, hw.nlots, hw.nown, hw.carr, hw.comm, hw.revl, fun o h => ?_, ⟨hb.1, htk.2⟩, hw.own, hw.scn, O.nbar⟩
    · have := (hw.fresh h).1
      rw [this] at p3
      exact absurd p3 (by have := O.lot; simp; omega)
    · obtain rfl := Option.some.inj h
      have hl := O.lot
      exact ⟨⟨hl.1, by simp only [opensS]; rw [List.length_set, lapseTo_length]; exact p3⟩, hb.1, htk.2⟩
  · exact ⟨hw.lens, fun h => absurd (hw.fresh h).2.2.1 (by rw [hop]; simp), hw.reqs, hw.resv, hw.nlots, hw.nown, hw.carr, hw.comm, hw.revl, fun o' h => by obtain rfl := Option.some.inj h; exact hw.opn o hop, ⟨hb.1, htk.2⟩, hw.own, hw.scn, hw.nbar⟩
  · exact ⟨hw.lens, fun h => absurd (hw.fresh h).2.2.1 (by rw [hop]; simp), hw.reqs, hw.resv, hw.nlots, hw.nown, hw.carr, hw.comm, hw.revl, fun o' h => by obtain rfl := Option.some.inj h; exact hw.opn o hop, ⟨hb.1, htk.2⟩, hw.own, hw.scn, hw.nbar⟩
  · have hwin := fun h2 => wins_in hw hp h2
    refine ⟨by simp only [closesS]; rw [List.length_set]; exact hw.lens, fun h => absurd (hw.fresh h).2.2.1 (by rw [hop]; simp), ?_, hw.resv, hw.nlots, ?_, hw.carr, hw.comm, hw.revl, fun o' h => by simp [closesS] at h, ⟨hb.1, htk.2⟩, ?_, hw.scn, hw.nbar⟩
    · intro k hk'
      have := hw.reqs k hk'
      simp only [closesS]
      split
      · rw [List.length_set]; exact this
      · exact this
    · simp only [closesS]
      split
      · rw [List.length_set]; exact hw.nown
      · exact hw.nown
    · intro x hx
      simp only [closesS] at hx
      split at hx
      · rename_i h2
        rcases List.mem_or_eq_of_mem_set hx with hx | rfl
        · exact hw.own x hx
        · exact hwin h2
      · exact hw.own x hx
  · refine ⟨by simp only [endsS]; rw [lapseTo_length]; exact hw.lens, fun h => ?_, hw.reqs, hw.resv, hw.nlots, hw.nown, hw.carr, hw.comm, hw.revl, fun o h => by simp [endsS] at h, ⟨hb.1, htk.2⟩, hw.own, hw.scn, hw.nbar⟩
    obtain ⟨f1, f2, f3, f4, f5⟩ := hw.fresh h
    exact ⟨by simp [endsS, f1, lapseTo], f2, rfl, f4, f5⟩
end Go.Proofs.YtfnekbfcndkjeaaGreatDoor
namespace Go.Proofs.YtfnekbfcndkjeaaGreatDoor
def MSt.Nx (st : MSt) : Prop := ∀ o, st.opn = some o → o.round = st.outs.length
theorem nx_empty : MSt.Nx {} := fun o h => by cases h
theorem take_nx {opf : List Int → RecD → Bool} {st : MSt} {d : RecD} (hn : st.Nx) : (takeM opf st d).2.Nx := by
  refine take_cases (P := fun x => x.2.Nx) (fun _ => hn) (fun _ => hn) fun st' hm hh hs => ?_
  rcases step_cases hs with ⟨hk, hp, rfl⟩ | ⟨hk, hp, rfl⟩ | ⟨hk, o, hop, hp, rfl⟩ | ⟨hk, o, hop, hp, rfl⟩ | ⟨hk, o, hop, hp, rfl⟩ | ⟨_, hp, rfl⟩
  · exact hn
  · intro o h
    obtain rfl := Option.some.inj h
    exact hp.2.1
  · intro o' h
    obtain rfl := Option.some.inj h
    exact hn o hop
  · intro o' h
    obtain rfl := Option.some.inj h
    exact hn o hop
  · intro o' h; cases h
  · intro o' h; cases h
end Go.Proofs.YtfnekbfcndkjeaaGreatDoor
namespace Go.Proofs.YtfnekbfcndkjeaaGreatDoor
open Go.RowKit
end Go.Proofs.YtfnekbfcndkjeaaGreatDoor
