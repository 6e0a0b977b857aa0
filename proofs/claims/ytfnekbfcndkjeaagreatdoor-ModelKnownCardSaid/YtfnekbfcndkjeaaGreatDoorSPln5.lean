/- What bytes read as is a record of right numbers; bytes that read as a record are its own. Plain. -/
import Derived.Test.YtfnekbfcndkjeaaGreatDoorSPln1
import Derived.Test.YtfnekbfcndkjeaaGreatDoorSMay1
import Derived.Test.YtfnekbfcndkjeaaGreatDoorSVickPlain
import Derived.Test.YtfnekbfcndkjeaaGreatDoorSApp1
set_option linter.all false
namespace Go.Proofs.YtfnekbfcndkjeaaGreatDoor
open Go.RowKit
def restOf (d : RecD) : RecD :=
  if d.kind = 1 then { d with carriers := 0, commit := 0, reveal := 0, scheme := 0, lots := [], owners := [] }
  else if d.kind = 2 then { d with lot := 0, barred := [] }
  else if d.kind = 3 then { d with carrier := 0, dig := List.replicate 32 0 }
  else if d.kind = 4 then { d with carrier := 0, bid := 0, nonce := 0 }
  else if d.kind = 5 then { d with state := 0, winner := 0, price := 0 }
  else d
def emptyD (d : RecD) : Bool := decide (d = { kind := d.kind, round := d.round, tick := d.tick })
def baseB (d : RecD) : Bool := decide (0 ≤ d.tick) && withinB d.round 0 15
def sceneD (d : RecD) : Bool := ((((withinB d.carriers 1 8 && (withinB d.commit 1 64 && (withinB d.reveal 1 64 && (withinB d.scheme 0 1 && (decide ((d.lots.length : Int) ≤ 16) && decide ((d.owners.length : Int) ≤ 64)))))) && allTo (lotAt d.lots) d.lots.length) && allTo (inAt d.owners) d.owners.length) && decide (d.tick = 0)) && decide (d.round = 0)
def rightB (d : RecD) : Bool :=
  if d.kind = 1 then sceneD d
  else if d.kind = 2 then (baseB d && withinB d.lot 0 15) && allTo (riseAt d.barred) d.barred.length
  else if d.kind = 3 then baseB d && withinB d.carrier 0 7
  else if d.kind = 4 then (baseB d && withinB d.carrier 0 7) && decide (d.bid ≤ 4294967296)
  else if d.kind = 5 then baseB d && toldB d.state d.winner d.price
  else if d.kind = 6 then baseB d && decide (d.round = 0)
  else false
def mayB (d : RecD) : Bool := rightB d && emptyD (restOf d)
structure RecD.ok (d : RecD) : Prop where
  len : d.dig.length = 32
  dig : Bs d.dig
  tick : -9223372036854775808 ≤ d.tick ∧ d.tick ≤ 9223372036854775807
  bid : 0 ≤ d.bid ∧ d.bid ≤ 18446744073709551615
  nonce : 0 ≤ d.nonce ∧ d.nonce ≤ 18446744073709551615
  price : 0 ≤ d.price ∧ d.price ≤ 18446744073709551615
  kind : -9223372036854775808 ≤ d.kind ∧ d.kind ≤ 9223372036854775807
  lot : -9223372036854775808 ≤ d.lot ∧ d.lot ≤ 9223372036854775807
  carrier : -9223372036854775808 ≤ d.carrier ∧ d.carrier ≤ 9223372036854775807
  carriers : -9223372036854775808 ≤ d.carriers ∧ d.carriers ≤ 9223372036854775807
  commit : -9223372036854775808 ≤ d.commit ∧ d.commit ≤ 9223372036854775807
  reveal : -9223372036854775808 ≤ d.reveal ∧ d.reveal ≤ 9223372036854775807
  scheme : -9223372036854775808 ≤ d.scheme ∧ d.scheme ≤ 9223372036854775807
  rows : d.barred.length + d.lots.length + d.owners.length ≤ 1099511627776
def rowIL (xs : List Int) : List Int := (xs.length : Int) :: xs
def flatL (xs : List (Int × Int)) : List Int := xs.flatMap fun x => x.1 :: be 4 x.2
def rowLL (xs : List (Int × Int)) : List Int := (xs.length : Int) :: flatL xs
def bytesL (d : RecD) : List Int :=
  if d.kind = 1 then [1, d.carriers, d.commit, d.reveal, d.scheme] ++ rowLL d.lots ++ rowIL d.owners
  else if d.kind = 2 then [2, d.round, d.lot] ++ be 8 d.tick ++ rowIL d.barred
  else if d.kind = 3 then [3, d.round, d.carrier] ++ d.dig ++ be 8 d.tick
  else if d.kind = 4 then [4, d.round, d.carrier] ++ be 8 d.bid ++ be 8 d.nonce ++ be 8 d.tick
  else if d.kind = 5 then [5, d.round, d.state, d.winner + 1] ++ be 8 d.price ++ be 8 d.tick
  else [6] ++ be 8 d.tick
def bytesF (d : RecD) : ByteArray := strOfNums (bytesL d)
def kindOk (k : Int) (t : ByteArray) : Prop :=
  if k = 1 then sceneOk t else if k = 2 then openOk t else if k = 3 then commitOk t else if k = 4 then revealOk t else if k = 5 then closeOk t else endOk t
instance (k : Int) (t : ByteArray) : Decidable (kindOk k t) := by unfold kindOk; infer_instance
theorem flatL_length (xs : List (Int × Int)) : (flatL xs).length = 5 * xs.length := by
  induction xs with
  | nil => rfl
  | cons x xs ih =>
    show (x.1 :: be 4 x.2 ++ flatL xs).length = _
    rw [List.length_append, List.length_cons, be_length, ih, List.length_cons]
    omega
theorem flatL_bs (xs : List (Int × Int)) (h : ∀ x ∈ xs, 0 ≤ x.1 ∧ x.1 ≤ 255) : Bs (flatL xs) := by
  induction xs with
  | nil => exact Bs.nil
  | cons x xs ih =>
    show Bs (x.1 :: be 4 x.2 ++ flatL xs)
    exact (Bs.cons (h x (by simp)) (be_bs 4 _)).append (ih fun y hy => h y (by simp [hy]))
end Go.Proofs.YtfnekbfcndkjeaaGreatDoor
namespace Go.Proofs.YtfnekbfcndkjeaaGreatDoor
open Vk (vickOf)
abbrev OutT := Int × Int × Int
structure Opn where
  round : Int
  lot : Int
  tick : Int
  marks : Int → Option (List Int)
  bids : Int → Option Int
structure MSt where
  scene : RecD := {}
  owners : List Int := []
  states : List Int := []
  outs : List OutT := []
  opn : Option Opn := none
  barred : List Int := []
  tick : Int := 0
  ended : Bool := false
def MSt.req (st : MSt) (lot : Nat) : Nat := (st.scene.lots.getD lot (0, 0)).1.toNat
def MSt.owner (st : MSt) (lot : Nat) : Int := st.owners.getD (st.req lot) 0
def MSt.due (st : MSt) : Int := st.scene.commit + st.scene.reveal
def lapse1 (s : Int) : Int := if s = 0 ∨ s = 1 then 5 else s
def lapseTo (n : Nat) (l : List Int) : List Int := (l.take n).map lapse1 ++ l.drop n
def upF {α : Type} (f : Int → Option α) (k : Int) (v : α) : Int → Option α := fun c => if c = k then some v else f c
def BeginP (d : RecD) : Prop :=
  (∀ k, k < d.lots.length → (∀ j, j < k → (d.lots.getD j (0, 0)).1 ≠ (d.lots.getD k (0, 0)).1) ∧ (d.lots.getD k (0, 0)).1 < d.owners.length) ∧ ∀ k, k < d.owners.length → d.owners.getD k 0 < d.carriers
instance (d : RecD) : Decidable (BeginP d) := by unfold BeginP; infer_instance
def beginS (st : MSt) (d : RecD) : MSt := { st with scene := { d with owners := [] }, owners := d.owners, states := List.replicate d.lots.length 0 }
def OpensP (st : MSt) (d : RecD) : Prop :=
  st.opn.isNone = true ∧ d.round = st.outs.length ∧ d.lot < st.states.length ∧ st.states.getD d.lot.toNat 0 = 0 ∧ st.owner d.lot.toNat ∉ d.barred ∧
    (∀ i, i < d.lot.toNat → st.states.getD i 0 = 0 → st.owner i ∈ d.barred) ∧ (∀ c ∈ st.barred, c ∈ d.barred) ∧ (0 < d.barred.length → d.barred.getD (d.barred.length - 1) 0 < st.scene.carriers)
instance (st : MSt) (d : RecD) : Decidable (OpensP st d) := by unfold OpensP; infer_instance
def opensS (st : MSt) (d : RecD) : MSt :=
  { st with barred := d.barred, states := (lapseTo d.lot.toNat st.states).set d.lot.toNat 1, opn := some { round := d.round, lot := d.lot, tick := d.tick, marks := fun _ => none, bids := fun _ => none } }
def CommitsP (st : MSt) (o : Opn) (d : RecD) : Prop :=
  d.round = o.round ∧ d.tick - o.tick < st.scene.commit ∧ d.carrier < st.scene.carriers ∧ d.carrier ∉ st.barred ∧ d.carrier ≠ st.owner o.lot.toNat ∧ (o.marks d.carrier).isNone = true
instance (st : MSt) (o : Opn) (d : RecD) : Decidable (CommitsP st o d) := by unfold CommitsP; infer_instance
def commitsS (st : MSt) (o : Opn) (d : RecD) : MSt := { st with opn := some { o with marks := upF o.marks d.carrier d.dig } }
def RevealsP (opf : List Int → RecD → Bool) (st : MSt) (o : Opn) (d : RecD) : Prop :=
  d.round = o.round ∧ st.scene.commit ≤ d.tick - o.tick ∧ d.tick - o.tick < st.due ∧ (o.marks d.carrier).isSome = true ∧ (o.bids d.carrier).isNone = true ∧ (st.scene.scheme = 0 → opf ((o.marks d.carrier).getD []) d = true)
instance (opf : List Int → RecD → Bool) (st : MSt) (o : Opn) (d : RecD) : Decidable (RevealsP opf st o d) := by unfold RevealsP; infer_instance
def revealsS (st : MSt) (o : Opn) (d : RecD) : MSt := { st with opn := some { o with bids := upF o.bids d.carrier d.bid } }
def bidsL (f : Int → Option Int) : Nat → List (Int × Int)
  | 0 => []
  | n + 1 => bidsL f n ++ (match f n with | some b => [((n : Int), b)] | none => [])
def wantM (st : MSt) (o : Opn) (d : RecD) : OutT :=
  let x := vickOf (bidsL o.bids st.scene.carriers.toNat) (st.scene.lots.getD o.lot.toNat (0, 0)).2
  if x.1 = 2 ∧ d.state = 4 then (4, x.2) else x
def ClosesP (st : MSt) (o : Opn) (d : RecD) : Prop := d.round = o.round ∧ d.tick - o.tick = st.due ∧ wantM st o d = (d.state, d.winner, d.price)
instance (st : MSt) (o : Opn) (d : RecD) : Decidable (ClosesP st o d) := by unfold ClosesP; infer_instance
def closesS (st : MSt) (o : Opn) (d : RecD) : MSt :=
  { st with owners := if d.state = 2 then st.owners.set (st.req o.lot.toNat) d.winner else st.owners, states := st.states.set o.lot.toNat d.state, outs := st.outs ++ [(d.state, d.winner, d.price)], opn := none }
def EndsP (st : MSt) (d : RecD) : Prop := (match st.opn with | none => True | some o => d.tick - o.tick < st.due)
instance (st : MSt) (d : RecD) : Decidable (EndsP st d) := by unfold EndsP; cases st.opn <;> infer_instance
def endsS (st : MSt) : MSt := { st with states := lapseTo st.states.length st.states, opn := none, ended := true }
def stepM (opf : List Int → RecD → Bool) (st : MSt) (d : RecD) : Option MSt :=
  if d.kind = 1 then (if BeginP d then some (beginS st d) else none)
  else if d.kind = 2 then (if OpensP st d then some (opensS st d) else none)
  else if d.kind = 3 then (match st.opn with | none => none | some o => if CommitsP st o d then some (commitsS st o d) else none)
  else if d.kind = 4 then (match st.opn with | none => none | some o => if RevealsP opf st o d then some (revealsS st o d) else none)
  else if d.kind = 5 then (match st.opn with | none => none | some o => if ClosesP st o d then some (closesS st o d) else none)
  else (if EndsP st d then some (endsS st) else none)
def HereP (st : MSt) (d : RecD) : Prop := st.ended = false ∧ (decide (st.scene.kind ≠ 0) ≠ decide (d.kind = 1)) ∧ st.tick ≤ d.tick
instance (st : MSt) (d : RecD) : Decidable (HereP st d) := by unfold HereP; infer_instance
def takeM (opf : List Int → RecD → Bool) (st : MSt) (d : RecD) : Int × MSt :=
  if mayB d = true then (if HereP st d then (match stepM opf st d with | some st' => (0, { st' with tick := d.tick }) | none => (22, st)) else (22, st)) else (15, st)
def playM (opf : List Int → RecD → Bool) (st : MSt) (ds : List RecD) : MSt := ds.foldl (fun s d => (takeM opf s d).2) st
structure MSt.Wf (st : MSt) : Prop where
  lens : st.states.length = st.scene.lots.length
  fresh : st.scene.kind = 0 → st.states = [] ∧ st.owners = [] ∧ st.opn = none ∧ st.outs = [] ∧ st.barred = []
  reqs : ∀ k, k < st.scene.lots.length → 0 ≤ (st.scene.lots.getD k (0, 0)).1 ∧ (st.scene.lots.getD k (0, 0)).1 < st.owners.length
  resv : ∀ k, k < st.scene.lots.length → 0 ≤ (st.scene.lots.getD k (0, 0)).2 ∧ (st.scene.lots.getD k (0, 0)).2 ≤ 16777216
  nlots : st.scene.lots.length ≤ 16
  nown : st.owners.length ≤ 64
  carr : 0 ≤ st.scene.carriers ∧ st.scene.carriers ≤ 8
  comm : 0 ≤ st.scene.commit ∧ st.scene.commit ≤ 64
  revl : 0 ≤ st.scene.reveal ∧ st.scene.reveal ≤ 64
  opn : ∀ o, st.opn = some o → (0 ≤ o.lot ∧ o.lot < st.states.length) ∧ 0 ≤ o.tick ∧ o.tick ≤ 9223372036854775807
  tick : 0 ≤ st.tick ∧ st.tick ≤ 9223372036854775807
  own : ∀ x ∈ st.owners, 0 ≤ x ∧ x < st.scene.carriers
  scn : st.scene.kind = 0 ∨ st.scene.kind = 1
  nbar : st.barred.length ≤ 8
end Go.Proofs.YtfnekbfcndkjeaaGreatDoor
namespace Go.Proofs.YtfnekbfcndkjeaaGreatDoor
open Go.RowKit
theorem mayB_and {d : RecD} (h : mayB d = true) : rightB d = true ∧ emptyD (restOf d) = true := by rw [mayB, Bool.and_eq_true] at h; exact h
theorem may_kind {d : RecD} (h : mayB d = true) : 1 ≤ d.kind ∧ d.kind ≤ 6 := by
  have h1 := (mayB_and h).1
  unfold rightB at h1
  by_cases e1 : d.kind = 1
  · omega
  by_cases e2 : d.kind = 2
  · omega
  by_cases e3 : d.kind = 3
  · omega
  by_cases e4 : d.kind = 4
  · omega
  by_cases e5 : d.kind = 5
  · omega
  by_cases e6 : d.kind = 6
  · omega
  rw [if_neg e1, if_neg e2, if_neg e3, if_neg e4, if_neg e5, if_neg e6] at h1
  cases h1
theorem within_iff (x lo hi : Int) : withinB x lo hi = true ↔ lo ≤ x ∧ x ≤ hi := by simp [withinB]
theorem base_iff (d : RecD) : baseB d = true ↔ 0 ≤ d.tick ∧ 0 ≤ d.round ∧ d.round ≤ 15 := by simp [baseB, within_iff]
theorem right1 {d : RecD} (hk : d.kind = 1) (h : rightB d = true) : (1 ≤ d.carriers ∧ d.carriers ≤ 8) ∧ (1 ≤ d.commit ∧ d.commit ≤ 64) ∧ (1 ≤ d.reveal ∧ d.reveal ≤ 64) ∧ (0 ≤ d.scheme ∧ d.scheme ≤ 1) ∧ d.lots.length ≤ 16 ∧ d.owners.length ≤ 64 ∧ (∀ x ∈ d.lots, (0 ≤ x.1 ∧ x.1 ≤ 63) ∧ 0 ≤ x.2 ∧ x.2 ≤ 16777216) ∧ (∀ x ∈ d.owners, 0 ≤ x ∧ x ≤ 7) ∧ d.tick = 0 ∧ d.round = 0 := by
  rw [rightB, if_pos hk] at h
  simp only [sceneD, Bool.and_eq_true, within_iff, decide_eq_true_eq, allTo_iff] at h
  obtain ⟨⟨⟨⟨⟨h1, h2, h3, h4, h5, h6⟩, h7⟩, h8⟩, h9⟩, h10⟩ := h
  refine ⟨h1, h2, h3, h4, by omega, by omega, fun x hx => ?_, fun x hx => ?_, h9, h10⟩
  · obtain ⟨k, hk, rfl⟩ := List.mem_iff_getElem.1 hx
    have := h7 k hk
    simp only [lotAt, lotB, List.getD_eq_getElem?_getD, List.getElem?_eq_getElem hk, Option.getD_some, Bool.and_eq_true, within_iff] at this
    exact this
  · obtain ⟨k, hk, rfl⟩ := List.mem_iff_getElem.1 hx
    have := h8 k hk
    simp only [inAt, List.getD_eq_getElem?_getD, List.getElem?_eq_getElem hk, Option.getD_some, within_iff] at this
    exact this
theorem right2 {d : RecD} (hk : d.kind = 2) (h : rightB d = true) : (0 ≤ d.tick ∧ 0 ≤ d.round ∧ d.round ≤ 15) ∧ (0 ≤ d.lot ∧ d.lot ≤ 15) ∧ (∀ k, k < d.barred.length → (0 ≤ d.barred.getD k 0 ∧ d.barred.getD k 0 ≤ 7) ∧ (k = 0 ∨ d.barred.getD (k - 1) 0 < d.barred.getD k 0)) := by
  rw [rightB, if_neg (by omega), if_pos hk] at h
  simp only [Bool.and_eq_true, within_iff, base_iff, allTo_iff, riseAt, Bool.or_eq_true, decide_eq_true_eq] at h
  exact ⟨h.1.1, h.1.2, h.2⟩
theorem right3 {d : RecD} (hk : d.kind = 3) (h : rightB d = true) : (0 ≤ d.tick ∧ 0 ≤ d.round ∧ d.round ≤ 15) ∧ 0 ≤ d.carrier ∧ d.carrier ≤ 7 := by
  rw [rightB, if_neg (by omega), if_neg (by omega), if_pos hk] at h
  simpa only [Bool.and_eq_true, within_iff, base_iff] using h
theorem right4 {d : RecD} (hk : d.kind = 4) (h : rightB d = true) : ((0 ≤ d.tick ∧ 0 ≤ d.round ∧ d.round ≤ 15) ∧ 0 ≤ d.carrier ∧ d.carrier ≤ 7) ∧ d.bid ≤ 4294967296 := by
  rw [rightB, if_neg (by omega), if_neg (by omega), if_neg (by omega), if_pos hk] at h
  simpa only [Bool.and_eq_true, within_iff, base_iff, decide_eq_true_eq] using h
theorem right5 {d : RecD} (hk : d.kind = 5) (h : rightB d = true) : (0 ≤ d.tick ∧ 0 ≤ d.round ∧ d.round ≤ 15) ∧ ((d.state = 3 ∧ d.winner = -1 ∧ d.price = 0) ∨ ((d.state = 2 ∨ d.state = 4) ∧ 0 ≤ d.winner ∧ d.winner ≤ 7 ∧ d.price ≤ 16777216)) := by
  rw [rightB, if_neg (by omega), if_neg (by omega), if_neg (by omega), if_neg (by omega), if_pos hk] at h
  simp only [Bool.and_eq_true, base_iff] at h
  refine ⟨h.1, ?_⟩
  have h2 := h.2
  unfold toldB at h2
  by_cases e : d.state = 3
  · rw [if_pos e] at h2
    simp only [Bool.and_eq_true, decide_eq_true_eq] at h2
    exact .inl ⟨e, h2⟩
  · rw [if_neg e] at h2
    simp only [Bool.and_eq_true, Bool.or_eq_true, decide_eq_true_eq, within_iff] at h2
    exact .inr ⟨h2.1.1, h2.1.2.1, h2.1.2.2, h2.2⟩
theorem right6 {d : RecD} (hk : d.kind = 6) (h : rightB d = true) : (0 ≤ d.tick ∧ 0 ≤ d.round ∧ d.round ≤ 15) ∧ d.round = 0 := by
  rw [rightB, if_neg (by omega), if_neg (by omega), if_neg (by omega), if_neg (by omega), if_neg (by omega), if_pos hk] at h
  simpa only [Bool.and_eq_true, base_iff, decide_eq_true_eq] using h
theorem rise_len (l : List Int) (h : ∀ k, k < l.length → (0 ≤ l.getD k 0 ∧ l.getD k 0 ≤ 7) ∧ (k = 0 ∨ l.getD (k - 1) 0 < l.getD k 0)) : l.length ≤ 8 := by
  have up : ∀ k, k < l.length → (k : Int) ≤ l.getD k 0 := by
    intro k
    induction k with
    | zero => intro hk; exact (h 0 hk).1.1
    | succ k ih =>
      intro hk
      have h1 := ih (by omega)
      rcases (h (k + 1) hk).2 with h2 | h2
      · omega
      · rw [Nat.add_sub_cancel] at h2
        omega
  rcases Nat.lt_or_ge 8 l.length with h8 | h8
  · have h1 := up 8 h8
    have h2 := (h 8 h8).1.2
    omega
  · exact h8
theorem rise_mem (l : List Int) (h : ∀ k, k < l.length → (0 ≤ l.getD k 0 ∧ l.getD k 0 ≤ 7) ∧ (k = 0 ∨ l.getD (k - 1) 0 < l.getD k 0)) : ∀ x ∈ l, 0 ≤ x ∧ x ≤ 7 := by
  intro x hx
  obtain ⟨k, hk, rfl⟩ := List.mem_iff_getElem.1 hx
  have := (h k hk).1
  rw [List.getD_eq_getElem?_getD, List.getElem?_eq_getElem hk] at this
  exact this
theorem rowIL_bs (l : List Int) (hn : l.length ≤ 255) (h : ∀ x ∈ l, 0 ≤ x ∧ x ≤ 7) : Bs (rowIL l) := Bs.cons (by omega) fun x hx => by have := h x hx; omega
theorem bytes_bs {d : RecD} (hm : mayB d = true) (ho : d.ok) : Bs (bytesL d) ∧ (bytesL d).length ≤ 151 ∧ 0 < (bytesL d).length := by
  obtain ⟨hr, _⟩ := mayB_and hm
  have hk := may_kind hm
  have nil := Bs.nil
  by_cases e1 : d.kind = 1
  · obtain ⟨h1, h2, h3, h4, h5, h6, h7, h8, _⟩ := right1 e1 hr
    rw [bytesL, if_pos e1]
    refine ⟨((Bs.cons (by omega) (Bs.cons (by omega) (Bs.cons (by omega) (Bs.cons (by omega) (Bs.cons (by omega) nil))))).append (Bs.cons (by omega) (flatL_bs _ fun x hx => by have := h7 x hx; omega))).append (rowIL_bs _ (by omega) h8), ?_, ?_⟩
    · simp only [rowLL, rowIL, List.length_append, List.length_cons, List.length_nil, flatL_length]; omega
    · simp
  rw [bytesL, if_neg e1]
  by_cases e2 : d.kind = 2
  · obtain ⟨h1, h2, h3⟩ := right2 e2 hr
    have hl := rise_len _ h3
    rw [if_pos e2]
    refine ⟨((Bs.cons (by omega) (Bs.cons (by omega) (Bs.cons (by omega) nil))).append (be_bs _ _)).append (rowIL_bs _ (by omega) (rise_mem _ h3)), ?_, ?_⟩
    · simp only [rowIL, List.length_append, List.length_cons, List.length_nil, be_length]; omega
    · simp
  rw [if_neg e2]
  by_cases e3 : d.kind = 3
  · obtain ⟨h1, h2, h3⟩ := right3 e3 hr
    rw [if_pos e3]
    refine ⟨((Bs.cons (by omega) (Bs.cons (by omega) (Bs.cons (by omega) nil))).append ho.dig).append (be_bs _ _), ?_, ?_⟩
    · simp only [List.length_append, List.length_cons, List.length_nil, be_length, ho.len]; omega
    · simp
  rw [if_neg e3]
  by_cases e4 : d.kind = 4
  · obtain ⟨⟨h1, h2⟩, h3⟩ := right4 e4 hr
    rw [if_pos e4]
    refine ⟨(((Bs.cons (by omega) (Bs.cons (by omega) (Bs.cons (by omega) nil))).append (be_bs _ _)).append (be_bs _ _)).append (be_bs _ _), ?_, ?_⟩
    · simp only [List.length_append, List.length_cons, List.length_nil, be_length]; omega
    · simp
  rw [if_neg e4]
  by_cases e5 : d.kind = 5
  · obtain ⟨h1, h2⟩ := right5 e5 hr
    rw [if_pos e5]
    refine ⟨((Bs.cons (by omega) (Bs.cons (by omega) (Bs.cons (by omega) (Bs.cons (by omega) nil)))).append (be_bs _ _)).append (be_bs _ _), ?_, ?_⟩
    · simp only [List.length_append, List.length_cons, List.length_nil, be_length]; omega
    · simp
  rw [if_neg e5]
  refine ⟨(Bs.cons (by omega) nil).append (be_bs _ _), ?_, ?_⟩
  · simp only [List.length_append, List.length_cons, List.length_nil, be_length]; omega
  · simp
end Go.Proofs.YtfnekbfcndkjeaaGreatDoor
namespace Go.Proofs.YtfnekbfcndkjeaaGreatDoor
open Go.RowKit
theorem run_append_nilsrc (base : Nat) (t ty e : TypeId) (i : TypeInfo) (size c : Nat) (ht : Tryz.prog.underlying t = some (.slice e)) (hi : Tryz.prog.info? e = some i) {w : World}
    (v : Value) (n : Nat) (xs : List Value) (hown : w.ownsRow base e size v n xs) :
    (Builtin.append_ #[t, t] ty #[v, .slice none 0 c]).run Tryz.prog w = .ok v w := by
  rcases hown.2 with ⟨rfl, rfl⟩ | ⟨g, cap, cur, rfl, _, _, hnc, _⟩
  · simp [Builtin.append_, run_underlying ht, sizeOf, typeInfo, hi, Builtin.lenOf, Builtin.firstCells]
  · simp [Builtin.append_, run_underlying ht, sizeOf, typeInfo, hi, Builtin.lenOf, Builtin.firstCells, hnc, storeCells]
theorem wpList_append_src {ops : Array Oper} {rest : List Oper} {o : Oper} {a : Act} {Q : Exit → Act → World → Prop} {w : World} (hgd : o.guard = none) (s x : Operand) (S E : TypeId)
    (ho : o.op = .call { callee := .builtin .append, args := #[s, x], argTypes := #[S, S] })
    (z : Value) (size bytes : Nat) (hS : Tryz.prog.underlying S = some (.slice E)) (hE : (Tryz.prog.info? E).map (fun i => (i.zero, i.size, i.bytes)) = some (some z, size, bytes)) (hzs : z.cells.size = size) (hsz : 0 < size)
    (base : Nat) (v : Value) (n : Nat) (xs : List Value) (hs : a.eval s = v) (hown : w.ownsRow base E size v n xs) (p : Option Addr) (m c : Nat) (ys : List Value) (hx : a.eval x = .slice p m c) (hyl : ys.length = m * size) (hone : ∀ u ∈ ys, u.oneCell' = true)
    (hsrc : 0 < m → ∃ lb lo, p = some ⟨lb, lo, none⟩ ∧ ∀ j u, ys[j]? = some u → w.cell? ⟨lb, lo + j, none⟩ = some u)
    (hlen : n + m ≤ maxLen) (hby : (n + m) * bytes ≤ 140737488355328) (hbase : base ≤ w.heap.size)
    (h : ∀ v' w', w'.ownsRow base E size v' (n + m) (xs ++ ys) → w.grownBy w' v.ownBlock → wpList Tryz.prog ops Q rest (a.put o.dst v') w') : wpList Tryz.prog ops Q (o :: rest) a w := by
  obtain ⟨i0, hi, hz0, hz1, hz2⟩ := info_parts hE
  refine wpList_plain hgd fun K hK => ?_
  have key : ∀ ad, p = some ad → (∀ j u, ys[j]? = some u → w.cell? (ad.add j) = some u) → o.wp Tryz.prog a w K Q := fun ad hp hnews => by
    subst hp
    exact wp_append_own w s x S ho base E i0 z size bytes hS hi hz0 hz1 hz2 hzs hsz v n xs hs hown ad m c ys hx hyl hnews hone hlen hby hbase fun v' w' hown' hgrow _ => hK _ _ (h v' w' hown' hgrow)
  by_cases h0 : 0 < m
  · obtain ⟨lb, lo, hp, hc⟩ := hsrc h0
    refine key _ hp fun j u hu => ?_
    have hadd : (⟨lb, lo, none⟩ : Addr).add j = ⟨lb, lo + j, none⟩ := by
      unfold Addr.add
      split
      · rename_i hk; subst hk; rfl
      · rfl
    rw [hadd]
    exact hc j u hu
  · obtain rfl : m = 0 := by omega
    have hy : ys = [] := List.length_eq_zero_iff.1 (by rw [hyl, Nat.zero_mul])
    subst hy
    cases p with
    | some ad => exact key ad rfl fun j u hu => by simp at hu
    | none =>
      have hrun := run_append_nilsrc base S o.type E i0 size c hS hi v n xs hown
      unfold Oper.wp
      simp [execOp, ho, resolve, invoke, builtin, hs, hx, hrun, Result.andThen]
      exact hK _ _ (h v w (by rw [List.append_nil]; exact hown) ⟨rfl, rfl, rfl, Nat.le_refl _, fun _ _ _ => rfl⟩)
def Rw (O : Nat → Prop) (B : Nat) (w : World) (k : Nat) : Prop := O k ∨ RowBlock B w k
def RowIM (O : Nat → Prop) (B : Nat) (w : World) (v : Value) (xs : List Int) : Prop :=
  ∃ a cap, v = .slice a xs.length cap ∧ xs.length ≤ cap ∧ (0 < xs.length → ∃ lb lo, a = some ⟨lb, lo, none⟩ ∧ lb < w.heap.size ∧ Rw O B w lb ∧ ∀ j, j < xs.length → w.cell? ⟨lb, lo + j, none⟩ = some (.int .i64 (xs.getD j 0)))
def RowLM (O : Nat → Prop) (B : Nat) (w : World) (v : Value) (xs : List (Int × Int)) : Prop :=
  ∃ a cap, v = .slice a xs.length cap ∧ xs.length ≤ cap ∧ (0 < xs.length → ∃ lb lo, a = some ⟨lb, lo, none⟩ ∧ lb < w.heap.size ∧ Rw O B w lb ∧ ∀ j, j < xs.length → w.cell? ⟨lb, lo + j * 2, none⟩ = some (.int .i64 (xs.getD j (0, 0)).1) ∧ w.cell? ⟨lb, lo + j * 2 + 1, none⟩ = some (.int .i64 (xs.getD j (0, 0)).2))
theorem RowIM.row {O : Nat → Prop} {B : Nat} {w : World} {v : Value} {xs : List Int} (h : RowIM O B w v xs) : RowI w v xs := by
  obtain ⟨a, cap, e, hc, h⟩ := h
  exact ⟨a, cap, e, hc, fun h0 => by obtain ⟨lb, lo, ea, hl, _, hj⟩ := h h0; exact ⟨lb, lo, ea, hl, hj⟩⟩
theorem RowLM.row {O : Nat → Prop} {B : Nat} {w : World} {v : Value} {xs : List (Int × Int)} (h : RowLM O B w v xs) : RowL w v xs := by
  obtain ⟨a, cap, e, hc, h⟩ := h
  exact ⟨a, cap, e, hc, fun h0 => by obtain ⟨lb, lo, ea, hl, _, hj⟩ := h h0; exact ⟨lb, lo, ea, hl, hj⟩⟩
theorem RowBlock.keeps {B : Nat} {w w' : World} {k : Nat} {K : Nat → Prop} (h : RowBlock B w k) (hk : Keeps K w w') (hK : K k) : RowBlock B w' k := by
  obtain ⟨hb, cur, h | h⟩ := h
  · exact ⟨hb, cur, .inl (whole_keeps h hk hK)⟩
  · exact ⟨hb, cur, .inr (whole_keeps h hk hK)⟩
theorem Rw.keeps {O : Nat → Prop} {B : Nat} {w w' : World} {k : Nat} {K : Nat → Prop} (h : Rw O B w k) (hk : Keeps K w w') (hK : K k) : Rw O B w' k := h.imp_right fun h => h.keeps hk hK
theorem RowIM.keeps {O : Nat → Prop} {B : Nat} {K : Nat → Prop} {w w' : World} {v : Value} {xs : List Int} (h : RowIM O B w v xs) (hk : Keeps K w w') (hK : ∀ k, k < w.heap.size → Rw O B w k → K k) : RowIM O B w' v xs := by
  obtain ⟨a, cap, e, hc, h⟩ := h
  refine ⟨a, cap, e, hc, fun h0 => ?_⟩
  obtain ⟨lb, lo, ea, hl, hr, hj⟩ := h h0
  have hK' := hK lb hl hr
  exact ⟨lb, lo, ea, Nat.lt_of_lt_of_le hl hk.size, hr.keeps hk hK', fun j h1 => cell_keeps (hj j h1) hk hK'⟩
theorem RowLM.keeps {O : Nat → Prop} {B : Nat} {K : Nat → Prop} {w w' : World} {v : Value} {xs : List (Int × Int)} (h : RowLM O B w v xs) (hk : Keeps K w w') (hK : ∀ k, k < w.heap.size → Rw O B w k → K k) : RowLM O B w' v xs := by
  obtain ⟨a, cap, e, hc, h⟩ := h
  refine ⟨a, cap, e, hc, fun h0 => ?_⟩
  obtain ⟨lb, lo, ea, hl, hr, hj⟩ := h h0
  have hK' := hK lb hl hr
  exact ⟨lb, lo, ea, Nat.lt_of_lt_of_le hl hk.size, hr.keeps hk hK', fun j h1 => ⟨cell_keeps (hj j h1).1 hk hK', cell_keeps (hj j h1).2 hk hK'⟩⟩
def RecM (O : Nat → Prop) (B : Nat) (w : World) (v : RecV) (d : RecD) : Prop :=
  ∃ b l o, v = d.toV b l o ∧ RowIM O B w b d.barred ∧ RowLM O B w l d.lots ∧ RowIM O B w o d.owners
theorem RecM.at_ {O : Nat → Prop} {B : Nat} {w : World} {v : RecV} {d : RecD} (h : RecM O B w v d) : RecAt w v d := by
  obtain ⟨b, l, o, e, h1, h2, h3⟩ := h
  exact ⟨b, l, o, e, h1.row, h2.row, h3.row⟩
theorem RecM.keeps {O : Nat → Prop} {B : Nat} {K : Nat → Prop} {w w' : World} {v : RecV} {d : RecD} (h : RecM O B w v d) (hk : Keeps K w w') (hK : ∀ k, k < w.heap.size → Rw O B w k → K k) : RecM O B w' v d := by
  obtain ⟨b, l, o, e, h1, h2, h3⟩ := h
  exact ⟨b, l, o, e, h1.keeps hk hK, h2.keeps hk hK, h3.keeps hk hK⟩
theorem RecM.on {O : Nat → Prop} {B : Nat} {w w' : World} {v : RecV} {d : RecD} (h : RecM O B w v d) (hb : Below w.heap.size w w') : RecM O B w' v d := h.keeps (keeps_of_new hb (fun _ => True)) (fun _ _ _ => trivial)
theorem RecM.one {O : Nat → Prop} {B : Nat} {w : World} {v : RecV} {d : RecD} (h : RecM O B w v d) : (recCells v).all (·.oneCell') = true := by
  obtain ⟨b, l, o, rfl, ⟨a1, c1, rfl, _⟩, ⟨a2, c2, rfl, _⟩, ⟨a3, c3, rfl, _⟩⟩ := h
  exact recCells_one _ rfl rfl rfl
end Go.Proofs.YtfnekbfcndkjeaaGreatDoor
namespace Go.Proofs.YtfnekbfcndkjeaaGreatDoor
open Go.RowKit
theorem eight (x : Int) (h : 0 ≤ x ∧ x ≤ 18446744073709551615) : x < 256 ^ 8 := by
  simp
  omega
end Go.Proofs.YtfnekbfcndkjeaaGreatDoor
namespace Go.Proofs.YtfnekbfcndkjeaaGreatDoor
open Go.RowKit
theorem rep_bs : Bs (List.replicate 32 0) := fun x hx => by rw [(List.mem_replicate.1 hx).2]; omega
end Go.Proofs.YtfnekbfcndkjeaaGreatDoor
