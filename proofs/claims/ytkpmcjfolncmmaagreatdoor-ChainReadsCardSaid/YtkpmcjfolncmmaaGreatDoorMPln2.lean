/- Records that may be, their bytes, and what bytes read as; what is laid is read, and what is read was laid so. Plain. -/
import Derived.Test.YtkpmcjfolncmmaaGreatDoorMOct2
import Derived.Test.YtkpmcjfolncmmaaGreatDoorMMay1
set_option linter.all false
namespace Go.Proofs.YtkpmcjfolncmmaaGreatDoor
open Go.RowKit

/-- A record without what its kind has. -/
def restOf (d : RecD) : RecD :=
  if d.kind = 1 then { d with carriers := 0, commit := 0, reveal := 0, scheme := 0, lots := [], owners := [] }
  else if d.kind = 2 then { d with lot := 0, barred := [] }
  else if d.kind = 3 then { d with carrier := 0, dig := List.replicate 32 0 }
  else if d.kind = 4 then { d with carrier := 0, bid := 0, nonce := 0 }
  else if d.kind = 5 then { d with state := 0, winner := 0, price := 0 }
  else d
/-- Is there nothing but a kind, a round and a tick? -/
def emptyD (d : RecD) : Bool := decide (d = { kind := d.kind, round := d.round, tick := d.tick })
def baseB (d : RecD) : Bool := decide (0 ≤ d.tick) && withinB d.round 0 15
/-- May what a scene's record has be? -/
def sceneD (d : RecD) : Bool := ((((withinB d.carriers 1 8 && (withinB d.commit 1 64 && (withinB d.reveal 1 64 && (withinB d.scheme 0 1 && (decide ((d.lots.length : Int) ≤ 16) && decide ((d.owners.length : Int) ≤ 64)))))) && allTo (lotAt d.lots) d.lots.length) && allTo (inAt d.owners) d.owners.length) && decide (d.tick = 0)) && decide (d.round = 0)
/-- Is what a kind has right? -/
def rightB (d : RecD) : Bool :=
  if d.kind = 1 then sceneD d
  else if d.kind = 2 then (baseB d && withinB d.lot 0 15) && allTo (riseAt d.barred) d.barred.length
  else if d.kind = 3 then baseB d && withinB d.carrier 0 7
  else if d.kind = 4 then (baseB d && withinB d.carrier 0 7) && decide (d.bid ≤ 4294967296)
  else if d.kind = 5 then baseB d && toldB d.state d.winner d.price
  else if d.kind = 6 then baseB d && decide (d.round = 0)
  else false
/-- May a record be? -/
def mayB (d : RecD) : Bool := rightB d && emptyD (restOf d)

/-- A record's numbers are those of their types. -/
structure RecD.ok (d : RecD) : Prop where
  len : d.dig.length = 32
  dig : Bs d.dig
  tick : -9223372036854775808 ≤ d.tick ∧ d.tick ≤ 9223372036854775807
  bid : 0 ≤ d.bid ∧ d.bid ≤ 18446744073709551615
  nonce : 0 ≤ d.nonce ∧ d.nonce ≤ 18446744073709551615
  price : 0 ≤ d.price ∧ d.price ≤ 18446744073709551615
  kind : -9223372036854775808 ≤ d.kind ∧ d.kind ≤ 9223372036854775807
  lot : -9223372036854775808 ≤ d.lot ∧ d.lot ≤ 9223372036854775807
  carrier : -9223372036854775808 ≤ d.carrier ∧ d.carrier ≤ 9223372036854775807
  carriers : -9223372036854775808 ≤ d.carriers ∧ d.carriers ≤ 9223372036854775807
  commit : -9223372036854775808 ≤ d.commit ∧ d.commit ≤ 9223372036854775807
  reveal : -9223372036854775808 ≤ d.reveal ∧ d.reveal ≤ 9223372036854775807
  scheme : -9223372036854775808 ≤ d.scheme ∧ d.scheme ≤ 9223372036854775807
  rows : d.barred.length + d.lots.length + d.owners.length ≤ 1099511627776

def rowIL (xs : List Int) : List Int := (xs.length : Int) :: xs
def flatL (xs : List (Int × Int)) : List Int := xs.flatMap fun x => x.1 :: be 4 x.2
def rowLL (xs : List (Int × Int)) : List Int := (xs.length : Int) :: flatL xs
/-- A record's bytes. -/
def bytesL (d : RecD) : List Int :=
  if d.kind = 1 then [1, d.carriers, d.commit, d.reveal, d.scheme] ++ rowLL d.lots ++ rowIL d.owners
  else if d.kind = 2 then [2, d.round, d.lot] ++ be 8 d.tick ++ rowIL d.barred
  else if d.kind = 3 then [3, d.round, d.carrier] ++ d.dig ++ be 8 d.tick
  else if d.kind = 4 then [4, d.round, d.carrier] ++ be 8 d.bid ++ be 8 d.nonce ++ be 8 d.tick
  else if d.kind = 5 then [5, d.round, d.state, d.winner + 1] ++ be 8 d.price ++ be 8 d.tick
  else [6] ++ be 8 d.tick
def bytesF (d : RecD) : ByteArray := strOfNums (bytesL d)

def kindOk (k : Int) (t : ByteArray) : Prop :=
  if k = 1 then sceneOk t else if k = 2 then openOk t else if k = 3 then commitOk t else if k = 4 then revealOk t else if k = 5 then closeOk t else endOk t
instance (k : Int) (t : ByteArray) : Decidable (kindOk k t) := by unfold kindOk; infer_instance
def kindR (k : Int) (t : ByteArray) : RecD :=
  if k = 1 then sceneR t else if k = 2 then openR t else if k = 3 then commitR t else if k = 4 then revealR t else if k = 5 then closeR t else endR t
def kindQ (k : Int) (t : ByteArray) : Int :=
  if k = 1 then sceneQ t else if k = 2 then openQ t else if k = 3 then commitQ t else if k = 4 then revealQ t else if k = 5 then closeQ t else endQ t
/-- What bytes read as; the error's number. -/
def readF (t : ByteArray) : RecD × Int :=
  if (t.size : Int) < 1 then ({}, 14)
  else if withinB (getV t 0 1) 1 6 = false then ({}, 15)
  else if ¬ kindOk (getV t 0 1) t then ({}, 14)
  else if 0 < (t.size : Int) - kindQ (getV t 0 1) t ∨ mayB (kindR (getV t 0 1) t) = false then ({}, 15)
  else (kindR (getV t 0 1) t, 0)

theorem flatL_length (xs : List (Int × Int)) : (flatL xs).length = 5 * xs.length := by
  induction xs with
  | nil => rfl
  | cons x xs ih =>
    show (x.1 :: be 4 x.2 ++ flatL xs).length = _
    rw [List.length_append, List.length_cons, be_length, ih, List.length_cons]
    omega
theorem flatL_bs (xs : List (Int × Int)) (h : ∀ x ∈ xs, 0 ≤ x.1 ∧ x.1 ≤ 255) : Bs (flatL xs) := by
  induction xs with
  | nil => exact Bs.nil
  | cons x xs ih =>
    show Bs (x.1 :: be 4 x.2 ++ flatL xs)
    exact (Bs.cons (h x (by simp)) (be_bs 4 _)).append (ih fun y hy => h y (by simp [hy]))
theorem flatL_inj : ∀ (xs ys : List (Int × Int)), xs.length = ys.length → (∀ x ∈ xs, 0 ≤ x.2 ∧ x.2 < 4294967296) → (∀ x ∈ ys, 0 ≤ x.2 ∧ x.2 < 4294967296) → flatL xs = flatL ys → xs = ys
  | [], [], _, _, _, _ => rfl
  | [], _ :: _, h, _, _, _ => by simp at h
  | _ :: _, [], h, _, _, _ => by simp at h
  | x :: xs, y :: ys, h, hx, hy, e => by
    have e' : (x.1 :: be 4 x.2) ++ flatL xs = (y.1 :: be 4 y.2) ++ flatL ys := e
    obtain ⟨e1, e2⟩ := List.append_inj e' (by simp [be_length])
    injection e1 with e3 e4
    have h1 := hx x (by simp)
    have h2 := hy y (by simp)
    have e5 : x.2 = y.2 := by rw [← valL_be 4 x.2 h1.1 (by simpa using h1.2), e4, valL_be 4 y.2 h2.1 (by simpa using h2.2)]
    rw [flatL_inj xs ys (by simpa using h) (fun z hz => hx z (by simp [hz])) (fun z hz => hy z (by simp [hz])) e2]
    rw [show x = y from Prod.ext e3 e5]

theorem intsTo_seg (t : ByteArray) (p k : Nat) (h : p + 1 + k ≤ t.size) : intsTo t p k = seg (byteOf t) (p + 1) k := by
  apply List.map_congr_left
  intro i hi
  have hi := List.mem_range.1 hi
  have := getV_one t (p + 1 + i) (by omega)
  rw [← this]
  congr 1
theorem flat_lotsTo (t : ByteArray) (p : Nat) : ∀ k, p + 1 + 5 * k ≤ t.size → flatL (lotsTo t p k) = seg (byteOf t) (p + 1) (5 * k)
  | 0, _ => rfl
  | k + 1, h => by
    have ih := flat_lotsTo t p k (by omega)
    have e : lotsTo t p (k + 1) = lotsTo t p k ++ [(getV t (p + 1 + 5 * k) 1, getV t (p + 1 + 5 * k + 1) 4)] := by
      rw [lotsTo, List.range_succ, List.map_append]
      rfl
    have h1 := getV_one t (p + 1 + 5 * k) (by omega)
    have h4 := be_getV t (p + 1 + 5 * k + 1) 4 (by omega) (by omega) (by omega)
    have c1 : ((p + 1 + 5 * k : Nat) : Int) = (p : Int) + 1 + 5 * (k : Int) := by omega
    have c2 : ((p + 1 + 5 * k + 1 : Nat) : Int) = (p : Int) + 1 + 5 * (k : Int) + 1 := by omega
    rw [c1] at h1
    rw [c2, show ((4 : Nat) : Int) = 4 from rfl] at h4
    rw [e, flatL, List.flatMap_append]
    show flatL (lotsTo t p k) ++ ([getV t (p + 1 + 5 * k) 1] ++ be 4 (getV t (p + 1 + 5 * k + 1) 4) ++ []) = _
    rw [ih, h1, h4, List.append_nil, show 5 * (k + 1) = 5 * k + (1 + 4) by omega, seg_add, seg_add, seg_one]
theorem lotsTo_length (t : ByteArray) (p : Int) (k : Nat) : (lotsTo t p k).length = k := by simp [lotsTo]
theorem intsTo_length (t : ByteArray) (p : Int) (k : Nat) : (intsTo t p k).length = k := by simp [intsTo]
theorem lotsTo_bound (t : ByteArray) (p : Int) (k : Nat) : ∀ x ∈ lotsTo t p k, 0 ≤ x.2 ∧ x.2 < 4294967296 := by
  intro x hx
  obtain ⟨i, _, rfl⟩ := List.mem_map.1 hx
  have := getV_bound t (p + 1 + 5 * i + 1) 4 (by omega)
  simpa using this

end Go.Proofs.YtkpmcjfolncmmaaGreatDoor

/- What is laid is read: of each kind of record. Plain. -/
namespace Go.Proofs.YtkpmcjfolncmmaaGreatDoor
open Go.RowKit

theorem shape1 (d : RecD) (hk : d.kind = 1) (h : emptyD (restOf d) = true) : d = { kind := 1, round := d.round, tick := d.tick, carriers := d.carriers, commit := d.commit, reveal := d.reveal, scheme := d.scheme, lots := d.lots, owners := d.owners } := by
  rcases d with ⟨kind, round, lot, carrier, tick, barred, dig, bid, nonce, state, winner, price, carriers, commit, reveal, scheme, lots, owners⟩
  simp only at hk
  subst hk
  simpa [emptyD, restOf] using h
theorem shape2 (d : RecD) (hk : d.kind = 2) (h : emptyD (restOf d) = true) : d = { kind := 2, round := d.round, tick := d.tick, lot := d.lot, barred := d.barred } := by
  rcases d with ⟨kind, round, lot, carrier, tick, barred, dig, bid, nonce, state, winner, price, carriers, commit, reveal, scheme, lots, owners⟩
  simp only at hk
  subst hk
  simpa [emptyD, restOf] using h
theorem shape3 (d : RecD) (hk : d.kind = 3) (h : emptyD (restOf d) = true) : d = { kind := 3, round := d.round, tick := d.tick, carrier := d.carrier, dig := d.dig } := by
  rcases d with ⟨kind, round, lot, carrier, tick, barred, dig, bid, nonce, state, winner, price, carriers, commit, reveal, scheme, lots, owners⟩
  simp only at hk
  subst hk
  simpa [emptyD, restOf] using h
theorem shape4 (d : RecD) (hk : d.kind = 4) (h : emptyD (restOf d) = true) : d = { kind := 4, round := d.round, tick := d.tick, carrier := d.carrier, bid := d.bid, nonce := d.nonce } := by
  rcases d with ⟨kind, round, lot, carrier, tick, barred, dig, bid, nonce, state, winner, price, carriers, commit, reveal, scheme, lots, owners⟩
  simp only at hk
  subst hk
  simpa [emptyD, restOf] using h
theorem shape5 (d : RecD) (hk : d.kind = 5) (h : emptyD (restOf d) = true) : d = { kind := 5, round := d.round, tick := d.tick, state := d.state, winner := d.winner, price := d.price } := by
  rcases d with ⟨kind, round, lot, carrier, tick, barred, dig, bid, nonce, state, winner, price, carriers, commit, reveal, scheme, lots, owners⟩
  simp only at hk
  subst hk
  simpa [emptyD, restOf] using h
theorem shape6 (d : RecD) (hk : d.kind = 6) (h : emptyD (restOf d) = true) : d = { kind := 6, round := d.round, tick := d.tick } := by
  rcases d with ⟨kind, round, lot, carrier, tick, barred, dig, bid, nonce, state, winner, price, carriers, commit, reveal, scheme, lots, owners⟩
  simp only at hk
  subst hk
  simpa [emptyD, restOf] using h

theorem mayB_and {d : RecD} (h : mayB d = true) : rightB d = true ∧ emptyD (restOf d) = true := by rw [mayB, Bool.and_eq_true] at h; exact h
theorem may_kind {d : RecD} (h : mayB d = true) : 1 ≤ d.kind ∧ d.kind ≤ 6 := by
  have h1 := (mayB_and h).1
  unfold rightB at h1
  by_cases e1 : d.kind = 1
  · omega
  by_cases e2 : d.kind = 2
  · omega
  by_cases e3 : d.kind = 3
  · omega
  by_cases e4 : d.kind = 4
  · omega
  by_cases e5 : d.kind = 5
  · omega
  by_cases e6 : d.kind = 6
  · omega
  rw [if_neg e1, if_neg e2, if_neg e3, if_neg e4, if_neg e5, if_neg e6] at h1
  cases h1
theorem within_iff (x lo hi : Int) : withinB x lo hi = true ↔ lo ≤ x ∧ x ≤ hi := by simp [withinB]
theorem base_iff (d : RecD) : baseB d = true ↔ 0 ≤ d.tick ∧ 0 ≤ d.round ∧ d.round ≤ 15 := by simp [baseB, within_iff]

/-- What a right record of each kind has. -/
theorem right1 {d : RecD} (hk : d.kind = 1) (h : rightB d = true) : (1 ≤ d.carriers ∧ d.carriers ≤ 8) ∧ (1 ≤ d.commit ∧ d.commit ≤ 64) ∧ (1 ≤ d.reveal ∧ d.reveal ≤ 64) ∧ (0 ≤ d.scheme ∧ d.scheme ≤ 1) ∧ d.lots.length ≤ 16 ∧ d.owners.length ≤ 64 ∧ (∀ x ∈ d.lots, (0 ≤ x.1 ∧ x.1 ≤ 63) ∧ 0 ≤ x.2 ∧ x.2 ≤ 16777216) ∧ (∀ x ∈ d.owners, 0 ≤ x ∧ x ≤ 7) ∧ d.tick = 0 ∧ d.round = 0 := by
  rw [rightB, if_pos hk] at h
  simp only [sceneD, Bool.and_eq_true, within_iff, decide_eq_true_eq, allTo_iff] at h
  obtain ⟨⟨⟨⟨⟨h1, h2, h3, h4, h5, h6⟩, h7⟩, h8⟩, h9⟩, h10⟩ := h
  refine ⟨h1, h2, h3, h4, by omega, by omega, fun x hx => ?_, fun x hx => ?_, h9, h10⟩
  · obtain ⟨k, hk, rfl⟩ := List.mem_iff_getElem.1 hx
    have := h7 k hk
    simp only [lotAt, lotB, List.getD_eq_getElem?_getD, List.getElem?_eq_getElem hk, Option.getD_some, Bool.and_eq_true, within_iff] at this
    exact this
  · obtain ⟨k, hk, rfl⟩ := List.mem_iff_getElem.1 hx
    have := h8 k hk
    simp only [inAt, List.getD_eq_getElem?_getD, List.getElem?_eq_getElem hk, Option.getD_some, within_iff] at this
    exact this
theorem right2 {d : RecD} (hk : d.kind = 2) (h : rightB d = true) : (0 ≤ d.tick ∧ 0 ≤ d.round ∧ d.round ≤ 15) ∧ (0 ≤ d.lot ∧ d.lot ≤ 15) ∧ (∀ k, k < d.barred.length → (0 ≤ d.barred.getD k 0 ∧ d.barred.getD k 0 ≤ 7) ∧ (k = 0 ∨ d.barred.getD (k - 1) 0 < d.barred.getD k 0)) := by
  rw [rightB, if_neg (by omega), if_pos hk] at h
  simp only [Bool.and_eq_true, within_iff, base_iff, allTo_iff, riseAt, Bool.or_eq_true, decide_eq_true_eq] at h
  exact ⟨h.1.1, h.1.2, h.2⟩
theorem right3 {d : RecD} (hk : d.kind = 3) (h : rightB d = true) : (0 ≤ d.tick ∧ 0 ≤ d.round ∧ d.round ≤ 15) ∧ 0 ≤ d.carrier ∧ d.carrier ≤ 7 := by
  rw [rightB, if_neg (by omega), if_neg (by omega), if_pos hk] at h
  simpa only [Bool.and_eq_true, within_iff, base_iff] using h
theorem right4 {d : RecD} (hk : d.kind = 4) (h : rightB d = true) : ((0 ≤ d.tick ∧ 0 ≤ d.round ∧ d.round ≤ 15) ∧ 0 ≤ d.carrier ∧ d.carrier ≤ 7) ∧ d.bid ≤ 4294967296 := by
  rw [rightB, if_neg (by omega), if_neg (by omega), if_neg (by omega), if_pos hk] at h
  simpa only [Bool.and_eq_true, within_iff, base_iff, decide_eq_true_eq] using h
theorem right5 {d : RecD} (hk : d.kind = 5) (h : rightB d = true) : (0 ≤ d.tick ∧ 0 ≤ d.round ∧ d.round ≤ 15) ∧ ((d.state = 3 ∧ d.winner = -1 ∧ d.price = 0) ∨ ((d.state = 2 ∨ d.state = 4) ∧ 0 ≤ d.winner ∧ d.winner ≤ 7 ∧ d.price ≤ 16777216)) := by
  rw [rightB, if_neg (by omega), if_neg (by omega), if_neg (by omega), if_neg (by omega), if_pos hk] at h
  simp only [Bool.and_eq_true, base_iff] at h
  refine ⟨h.1, ?_⟩
  have h2 := h.2
  unfold toldB at h2
  by_cases e : d.state = 3
  · rw [if_pos e] at h2
    simp only [Bool.and_eq_true, decide_eq_true_eq] at h2
    exact .inl ⟨e, h2⟩
  · rw [if_neg e] at h2
    simp only [Bool.and_eq_true, Bool.or_eq_true, decide_eq_true_eq, within_iff] at h2
    exact .inr ⟨h2.1.1, h2.1.2.1, h2.1.2.2, h2.2⟩
theorem right6 {d : RecD} (hk : d.kind = 6) (h : rightB d = true) : (0 ≤ d.tick ∧ 0 ≤ d.round ∧ d.round ≤ 15) ∧ d.round = 0 := by
  rw [rightB, if_neg (by omega), if_neg (by omega), if_neg (by omega), if_neg (by omega), if_neg (by omega), if_pos hk] at h
  simpa only [Bool.and_eq_true, base_iff, decide_eq_true_eq] using h

/-- A row that rises has eight at most. -/
theorem rise_len (l : List Int) (h : ∀ k, k < l.length → (0 ≤ l.getD k 0 ∧ l.getD k 0 ≤ 7) ∧ (k = 0 ∨ l.getD (k - 1) 0 < l.getD k 0)) : l.length ≤ 8 := by
  have up : ∀ k, k < l.length → (k : Int) ≤ l.getD k 0 := by
    intro k
    induction k with
    | zero => intro hk; exact (h 0 hk).1.1
    | succ k ih =>
      intro hk
      have h1 := ih (by omega)
      rcases (h (k + 1) hk).2 with h2 | h2
      · omega
      · rw [Nat.add_sub_cancel] at h2
        omega
  rcases Nat.lt_or_ge 8 l.length with h8 | h8
  · have h1 := up 8 h8
    have h2 := (h 8 h8).1.2
    omega
  · exact h8
theorem rise_mem (l : List Int) (h : ∀ k, k < l.length → (0 ≤ l.getD k 0 ∧ l.getD k 0 ≤ 7) ∧ (k = 0 ∨ l.getD (k - 1) 0 < l.getD k 0)) : ∀ x ∈ l, 0 ≤ x ∧ x ≤ 7 := by
  intro x hx
  obtain ⟨k, hk, rfl⟩ := List.mem_iff_getElem.1 hx
  have := (h k hk).1
  rw [List.getD_eq_getElem?_getD, List.getElem?_eq_getElem hk] at this
  exact this

theorem rowIL_bs (l : List Int) (hn : l.length ≤ 255) (h : ∀ x ∈ l, 0 ≤ x ∧ x ≤ 7) : Bs (rowIL l) := Bs.cons (by omega) fun x hx => by have := h x hx; omega

/-- A record's bytes are bytes, and few. -/
theorem bytes_bs {d : RecD} (hm : mayB d = true) (ho : d.ok) : Bs (bytesL d) ∧ (bytesL d).length ≤ 151 ∧ 0 < (bytesL d).length := by
  obtain ⟨hr, _⟩ := mayB_and hm
  have hk := may_kind hm
  have nil := Bs.nil
  by_cases e1 : d.kind = 1
  · obtain ⟨h1, h2, h3, h4, h5, h6, h7, h8, _⟩ := right1 e1 hr
    rw [bytesL, if_pos e1]
    refine ⟨((Bs.cons (by omega) (Bs.cons (by omega) (Bs.cons (by omega) (Bs.cons (by omega) (Bs.cons (by omega) nil))))).append (Bs.cons (by omega) (flatL_bs _ fun x hx => by have := h7 x hx; omega))).append (rowIL_bs _ (by omega) h8), ?_, ?_⟩
    · simp only [rowLL, rowIL, List.length_append, List.length_cons, List.length_nil, flatL_length]; omega
    · simp
  rw [bytesL, if_neg e1]
  by_cases e2 : d.kind = 2
  · obtain ⟨h1, h2, h3⟩ := right2 e2 hr
    have hl := rise_len _ h3
    rw [if_pos e2]
    refine ⟨((Bs.cons (by omega) (Bs.cons (by omega) (Bs.cons (by omega) nil))).append (be_bs _ _)).append (rowIL_bs _ (by omega) (rise_mem _ h3)), ?_, ?_⟩
    · simp only [rowIL, List.length_append, List.length_cons, List.length_nil, be_length]; omega
    · simp
  rw [if_neg e2]
  by_cases e3 : d.kind = 3
  · obtain ⟨h1, h2, h3⟩ := right3 e3 hr
    rw [if_pos e3]
    refine ⟨((Bs.cons (by omega) (Bs.cons (by omega) (Bs.cons (by omega) nil))).append ho.dig).append (be_bs _ _), ?_, ?_⟩
    · simp only [List.length_append, List.length_cons, List.length_nil, be_length, ho.len]; omega
    · simp
  rw [if_neg e3]
  by_cases e4 : d.kind = 4
  · obtain ⟨⟨h1, h2⟩, h3⟩ := right4 e4 hr
    rw [if_pos e4]
    refine ⟨(((Bs.cons (by omega) (Bs.cons (by omega) (Bs.cons (by omega) nil))).append (be_bs _ _)).append (be_bs _ _)).append (be_bs _ _), ?_, ?_⟩
    · simp only [List.length_append, List.length_cons, List.length_nil, be_length]; omega
    · simp
  rw [if_neg e4]
  by_cases e5 : d.kind = 5
  · obtain ⟨h1, h2⟩ := right5 e5 hr
    rw [if_pos e5]
    refine ⟨((Bs.cons (by omega) (Bs.cons (by omega) (Bs.cons (by omega) (Bs.cons (by omega) nil)))).append (be_bs _ _)).append (be_bs _ _), ?_, ?_⟩
    · simp only [List.length_append, List.length_cons, List.length_nil, be_length]; omega
    · simp
  rw [if_neg e5]
  refine ⟨(Bs.cons (by omega) nil).append (be_bs _ _), ?_, ?_⟩
  · simp only [List.length_append, List.length_cons, List.length_nil, be_length]; omega
  · simp

end Go.Proofs.YtkpmcjfolncmmaaGreatDoor

/- A record's bytes read as that record; bytes that read as a record are its own. Plain. -/
namespace Go.Proofs.YtkpmcjfolncmmaaGreatDoor
open Go.RowKit

theorem getV_of {l : List Int} (hb : Bs l) (a b : List Int) (v : Int) (n p : Nat) (hl : l = a ++ be n v ++ b) (hp : a.length = p) (h1 : 1 ≤ n) (h8 : n ≤ 8) (h0 : 0 ≤ v) (hv : v < 256 ^ n) : getV (strOfNums l) p n = v := by
  subst hl
  exact getV_strOf a b v n p h1 h8 hb hp h0 hv
theorem byte_of {l : List Int} (hb : Bs l) (p : Nat) (hp : p < l.length) : getV (strOfNums l) p 1 = l.getD p 0 := by
  rw [getV_one _ _ (by rw [strOf_size]; omega), byteOf_strOf l hb]
theorem tick_id (x : Int) (h : 0 ≤ x ∧ x ≤ 9223372036854775807) : wrap64 x = x := by unfold wrap64; omega
theorem tick_of (x : Int) (hx : 0 ≤ x ∧ x < 256 ^ 8) (h : 0 ≤ wrap64 x) : wrap64 x = x ∧ x ≤ 9223372036854775807 := by
  unfold wrap64 at h ⊢
  simp at hx
  omega
theorem eight (x : Int) (h : 0 ≤ x ∧ x ≤ 18446744073709551615) : x < 256 ^ 8 := by
  simp
  omega

theorem read_kind {t : ByteArray} {k : Int} (h0 : 1 ≤ t.size) (hk : getV t 0 1 = k) (hk1 : 1 ≤ k ∧ k ≤ 6) (hok : kindOk k t) (hq : kindQ k t = t.size) (hm : mayB (kindR k t) = true) : readF t = (kindR k t, 0) := by
  subst hk
  have hw : withinB (getV t 0 1) 1 6 = true := (within_iff _ _ _).2 hk1
  rw [readF, if_neg (by omega), if_neg (by rw [hw]; decide), if_neg (fun h => h hok), if_neg (fun h => by rcases h with h | h; omega; rw [hm] at h; cases h)]

/-- A row of ints behind its number. -/
theorem ints_of {l : List Int} (hb : Bs l) (a b xs : List Int) (p : Nat) (hl : l = a ++ rowIL xs ++ b) (hp : a.length = p) (hn : xs.length ≤ 255) : cntR (strOfNums l) p = xs.length ∧ intsTo (strOfNums l) p xs.length = xs := by
  have hlen : l.length = p + (1 + xs.length) + b.length := by rw [hl, List.length_append, List.length_append, hp]; simp only [rowIL, List.length_cons]; omega
  have h1 : getV (strOfNums l) p 1 = (xs.length : Int) := by
    rw [byte_of hb p (by omega), hl, List.append_assoc, List.getD_eq_getElem?_getD, List.getElem?_append_right (by omega), hp, Nat.sub_self]
    rfl
  refine ⟨by rw [cntR, h1, Int.toNat_natCast], ?_⟩
  rw [intsTo_seg _ _ _ (by rw [strOf_size]; omega)]
  have e : l = (a ++ [(xs.length : Int)]) ++ xs ++ b := by rw [hl]; simp [rowIL]
  have := seg_strOf (a ++ [(xs.length : Int)]) xs b (by rw [← e]; exact hb) (p + 1) xs.length (by simp [hp]) rfl
  rw [← e] at this
  exact this
theorem lots_of {l : List Int} (hb : Bs l) (a b : List Int) (xs : List (Int × Int)) (p : Nat) (hl : l = a ++ rowLL xs ++ b) (hp : a.length = p) (hn : xs.length ≤ 255) (hx : ∀ x ∈ xs, 0 ≤ x.2 ∧ x.2 < 4294967296) : cntR (strOfNums l) p = xs.length ∧ lotsTo (strOfNums l) p xs.length = xs := by
  have hlen : l.length = p + (1 + 5 * xs.length) + b.length := by rw [hl, List.length_append, List.length_append, hp]; simp only [rowLL, List.length_cons, flatL_length]; omega
  have h1 : getV (strOfNums l) p 1 = (xs.length : Int) := by
    rw [byte_of hb p (by omega), hl, List.append_assoc, List.getD_eq_getElem?_getD, List.getElem?_append_right (by omega), hp, Nat.sub_self]
    rfl
  refine ⟨by rw [cntR, h1, Int.toNat_natCast], ?_⟩
  have e : l = (a ++ [(xs.length : Int)]) ++ flatL xs ++ b := by rw [hl]; simp [rowLL]
  have h2 := seg_strOf (a ++ [(xs.length : Int)]) (flatL xs) b (by rw [← e]; exact hb) (p + 1) (5 * xs.length) (by simp [hp]) (flatL_length xs)
  rw [← e] at h2
  exact flatL_inj _ _ (lotsTo_length _ _ _) (lotsTo_bound _ _ _) hx (by rw [flat_lotsTo _ _ _ (by rw [strOf_size]; omega), h2])

theorem read_bytes1 {d : RecD} (hk : d.kind = 1) (hm : mayB d = true) (ho : d.ok) : kindOk 1 (bytesF d) ∧ kindQ 1 (bytesF d) = (bytesF d).size ∧ kindR 1 (bytesF d) = d := by
  obtain ⟨hr, he⟩ := mayB_and hm
  have hs := shape1 d hk he
  obtain ⟨hb, _⟩ := bytes_bs hm ho
  obtain ⟨h1, h2, h3, h4, h5, h6, h7, h8, h9, h10⟩ := right1 hk hr
  have hl : bytesL d = [1, d.carriers, d.commit, d.reveal, d.scheme] ++ rowLL d.lots ++ rowIL d.owners := by rw [bytesL, if_pos hk]
  obtain ⟨l, hle⟩ : ∃ l, l = bytesL d := ⟨_, rfl⟩
  rw [← hle] at hb hl
  have ht : bytesF d = strOfNums l := by rw [hle]; rfl
  rw [ht]
  have hlen : l.length = 5 + (1 + 5 * d.lots.length) + (1 + d.owners.length) := by rw [hl]; simp only [rowLL, rowIL, List.length_append, List.length_cons, List.length_nil, flatL_length]; omega
  obtain ⟨c1, c2⟩ := lots_of hb [1, d.carriers, d.commit, d.reveal, d.scheme] (rowIL d.owners) d.lots 5 hl rfl (by omega) (fun x hx => by have := h7 x hx; omega)
  have c1' : cntR (strOfNums l) 5 = d.lots.length := c1
  have hp : sceneP (strOfNums l) = ((6 + 5 * d.lots.length : Nat) : Int) := by rw [sceneP, c1']; omega
  obtain ⟨c3, c4⟩ := ints_of hb ([1, d.carriers, d.commit, d.reveal, d.scheme] ++ rowLL d.lots) [] d.owners (6 + 5 * d.lots.length) (by rw [hl, List.append_nil]) (by simp only [rowLL, List.length_append, List.length_cons, List.length_nil, flatL_length]; omega) (by omega)
  have v1 : getV (strOfNums l) 1 1 = d.carriers := (byte_of hb 1 (by omega)).trans (by rw [hl]; rfl)
  have v2 : getV (strOfNums l) 2 1 = d.commit := (byte_of hb 2 (by omega)).trans (by rw [hl]; rfl)
  have v3 : getV (strOfNums l) 3 1 = d.reveal := (byte_of hb 3 (by omega)).trans (by rw [hl]; rfl)
  have v4 : getV (strOfNums l) 4 1 = d.scheme := (byte_of hb 4 (by omega)).trans (by rw [hl]; rfl)
  have hz : (strOfNums l).size = l.length := strOf_size l
  refine ⟨?_, ?_, ?_⟩
  · show sceneOk (strOfNums l)
    refine ⟨by omega, ⟨by omega, by rw [c1']; omega⟩, ?_⟩
    rw [hp]
    exact ⟨by omega, by rw [c3]; omega⟩
  · show sceneQ (strOfNums l) = _
    rw [sceneQ, hp, c3]
    omega
  · show sceneR (strOfNums l) = _
    rw [sceneR, hp, c3, c1', v1, v2, v3, v4]
    have c2' : lotsTo (strOfNums l) 5 d.lots.length = d.lots := c2
    rw [c2', c4]
    conv => rhs; rw [hs, h9, h10]

theorem read_bytes2 {d : RecD} (hk : d.kind = 2) (hm : mayB d = true) (ho : d.ok) : kindOk 2 (bytesF d) ∧ kindQ 2 (bytesF d) = (bytesF d).size ∧ kindR 2 (bytesF d) = d := by
  obtain ⟨hr, he⟩ := mayB_and hm
  have hs := shape2 d hk he
  obtain ⟨hb, _⟩ := bytes_bs hm ho
  obtain ⟨h1, h2, h3⟩ := right2 hk hr
  have h8 := rise_len _ h3
  have ht2 := ho.tick.2
  have hl : bytesL d = [2, d.round, d.lot] ++ be 8 d.tick ++ rowIL d.barred := by rw [bytesL, if_neg (by omega), if_pos hk]
  obtain ⟨l, hle⟩ : ∃ l, l = bytesL d := ⟨_, rfl⟩
  rw [← hle] at hb hl
  have ht : bytesF d = strOfNums l := by rw [hle]; rfl
  rw [ht]
  have hlen : l.length = 11 + (1 + d.barred.length) := by rw [hl]; simp only [rowIL, List.length_append, List.length_cons, List.length_nil, be_length]; omega
  obtain ⟨c3, c4⟩ := ints_of hb ([2, d.round, d.lot] ++ be 8 d.tick) [] d.barred 11 (by rw [hl, List.append_nil]) (by simp only [List.length_append, List.length_cons, List.length_nil, be_length]) (by omega)
  have c3' : cntR (strOfNums l) 11 = d.barred.length := c3
  have c4' : intsTo (strOfNums l) 11 d.barred.length = d.barred := c4
  have v1 : getV (strOfNums l) 1 1 = d.round := (byte_of hb 1 (by omega)).trans (by rw [hl]; rfl)
  have v2 : getV (strOfNums l) 2 1 = d.lot := (byte_of hb 2 (by omega)).trans (by rw [hl]; rfl)
  have v3 : getV (strOfNums l) 3 8 = d.tick := getV_of hb [2, d.round, d.lot] (rowIL d.barred) d.tick 8 3 hl rfl (by omega) (by omega) (by omega) (eight _ (by omega))
  have hz : (strOfNums l).size = l.length := strOf_size l
  refine ⟨?_, ?_, ?_⟩
  · show openOk (strOfNums l)
    exact ⟨by omega, by omega, by rw [c3']; omega⟩
  · show openQ (strOfNums l) = _
    rw [openQ, c3']
    omega
  · show openR (strOfNums l) = _
    rw [openR, v1, v2, v3, c3', c4', tick_id _ (by omega)]
    conv => rhs; rw [hs]

theorem read_bytes3 {d : RecD} (hk : d.kind = 3) (hm : mayB d = true) (ho : d.ok) : kindOk 3 (bytesF d) ∧ kindQ 3 (bytesF d) = (bytesF d).size ∧ kindR 3 (bytesF d) = d := by
  obtain ⟨hr, he⟩ := mayB_and hm
  have hs := shape3 d hk he
  obtain ⟨hb, _⟩ := bytes_bs hm ho
  obtain ⟨h1, h2⟩ := right3 hk hr
  have ht2 := ho.tick.2
  have hl : bytesL d = [3, d.round, d.carrier] ++ d.dig ++ be 8 d.tick := by rw [bytesL, if_neg (by omega), if_neg (by omega), if_pos hk]
  obtain ⟨l, hle⟩ : ∃ l, l = bytesL d := ⟨_, rfl⟩
  rw [← hle] at hb hl
  have ht : bytesF d = strOfNums l := by rw [hle]; rfl
  rw [ht]
  have hlen : l.length = 43 := by rw [hl]; simp only [List.length_append, List.length_cons, List.length_nil, be_length, ho.len]
  have v1 : getV (strOfNums l) 1 1 = d.round := (byte_of hb 1 (by omega)).trans (by rw [hl]; rfl)
  have v2 : getV (strOfNums l) 2 1 = d.carrier := (byte_of hb 2 (by omega)).trans (by rw [hl]; rfl)
  have v3 : getV (strOfNums l) 35 8 = d.tick := getV_of hb ([3, d.round, d.carrier] ++ d.dig) [] d.tick 8 35 (by rw [hl, List.append_nil]) (by simp only [List.length_append, List.length_cons, List.length_nil, ho.len]) (by omega) (by omega) (by omega) (eight _ (by omega))
  have hz : (strOfNums l).size = l.length := strOf_size l
  have v4 : digTo (strOfNums l) 32 = d.dig := by
    have e : digTo (strOfNums l) 32 = seg (byteOf (strOfNums l)) 3 32 := by
      apply List.map_congr_left
      intro i hi
      have hi := List.mem_range.1 hi
      have := getV_one (strOfNums l) (3 + i) (by omega)
      rw [← this]
      congr 1
    have := seg_strOf [3, d.round, d.carrier] d.dig (be 8 d.tick) (by rw [← hl]; exact hb) 3 32 rfl ho.len
    rw [← hl] at this
    rw [e, this]
  refine ⟨?_, ?_, ?_⟩
  · show 43 ≤ (strOfNums l).size
    omega
  · show (43 : Int) = _
    omega
  · show commitR (strOfNums l) = _
    rw [commitR, v1, v2, v3, v4, tick_id _ (by omega)]
    conv => rhs; rw [hs]

theorem read_bytes4 {d : RecD} (hk : d.kind = 4) (hm : mayB d = true) (ho : d.ok) : kindOk 4 (bytesF d) ∧ kindQ 4 (bytesF d) = (bytesF d).size ∧ kindR 4 (bytesF d) = d := by
  obtain ⟨hr, he⟩ := mayB_and hm
  have hs := shape4 d hk he
  obtain ⟨hb, _⟩ := bytes_bs hm ho
  obtain ⟨⟨h1, h2⟩, h3⟩ := right4 hk hr
  have ht2 := ho.tick.2
  have hl : bytesL d = [4, d.round, d.carrier] ++ be 8 d.bid ++ be 8 d.nonce ++ be 8 d.tick := by rw [bytesL, if_neg (by omega), if_neg (by omega), if_neg (by omega), if_pos hk]
  obtain ⟨l, hle⟩ : ∃ l, l = bytesL d := ⟨_, rfl⟩
  rw [← hle] at hb hl
  have ht : bytesF d = strOfNums l := by rw [hle]; rfl
  rw [ht]
  have hlen : l.length = 27 := by rw [hl]; simp only [List.length_append, List.length_cons, List.length_nil, be_length]
  have v1 : getV (strOfNums l) 1 1 = d.round := (byte_of hb 1 (by omega)).trans (by rw [hl]; rfl)
  have v2 : getV (strOfNums l) 2 1 = d.carrier := (byte_of hb 2 (by omega)).trans (by rw [hl]; rfl)
  have v3 : getV (strOfNums l) 3 8 = d.bid := getV_of hb [4, d.round, d.carrier] (be 8 d.nonce ++ be 8 d.tick) d.bid 8 3 (by rw [hl, List.append_assoc]) rfl (by omega) (by omega) ho.bid.1 (eight _ ho.bid)
  have v4 : getV (strOfNums l) 11 8 = d.nonce := getV_of hb ([4, d.round, d.carrier] ++ be 8 d.bid) (be 8 d.tick) d.nonce 8 11 hl (by simp only [List.length_append, List.length_cons, List.length_nil, be_length]) (by omega) (by omega) ho.nonce.1 (eight _ ho.nonce)
  have v5 : getV (strOfNums l) 19 8 = d.tick := getV_of hb ([4, d.round, d.carrier] ++ be 8 d.bid ++ be 8 d.nonce) [] d.tick 8 19 (by rw [hl, List.append_nil]) (by simp only [List.length_append, List.length_cons, List.length_nil, be_length]) (by omega) (by omega) (by omega) (eight _ (by omega))
  have hz : (strOfNums l).size = l.length := strOf_size l
  refine ⟨?_, ?_, ?_⟩
  · show 27 ≤ (strOfNums l).size
    omega
  · show (27 : Int) = _
    omega
  · show revealR (strOfNums l) = _
    rw [revealR, v1, v2, v3, v4, v5, tick_id _ (by omega)]
    conv => rhs; rw [hs]

theorem read_bytes5 {d : RecD} (hk : d.kind = 5) (hm : mayB d = true) (ho : d.ok) : kindOk 5 (bytesF d) ∧ kindQ 5 (bytesF d) = (bytesF d).size ∧ kindR 5 (bytesF d) = d := by
  obtain ⟨hr, he⟩ := mayB_and hm
  have hs := shape5 d hk he
  obtain ⟨hb, _⟩ := bytes_bs hm ho
  obtain ⟨h1, h2⟩ := right5 hk hr
  have ht2 := ho.tick.2
  have hl : bytesL d = [5, d.round, d.state, d.winner + 1] ++ be 8 d.price ++ be 8 d.tick := by rw [bytesL, if_neg (by omega), if_neg (by omega), if_neg (by omega), if_neg (by omega), if_pos hk]
  obtain ⟨l, hle⟩ : ∃ l, l = bytesL d := ⟨_, rfl⟩
  rw [← hle] at hb hl
  have ht : bytesF d = strOfNums l := by rw [hle]; rfl
  rw [ht]
  have hlen : l.length = 20 := by rw [hl]; simp only [List.length_append, List.length_cons, List.length_nil, be_length]
  have v1 : getV (strOfNums l) 1 1 = d.round := (byte_of hb 1 (by omega)).trans (by rw [hl]; rfl)
  have v2 : getV (strOfNums l) 2 1 = d.state := (byte_of hb 2 (by omega)).trans (by rw [hl]; rfl)
  have v3 : getV (strOfNums l) 3 1 = d.winner + 1 := (byte_of hb 3 (by omega)).trans (by rw [hl]; rfl)
  have v4 : getV (strOfNums l) 4 8 = d.price := getV_of hb [5, d.round, d.state, d.winner + 1] (be 8 d.tick) d.price 8 4 hl rfl (by omega) (by omega) ho.price.1 (eight _ ho.price)
  have v5 : getV (strOfNums l) 12 8 = d.tick := getV_of hb ([5, d.round, d.state, d.winner + 1] ++ be 8 d.price) [] d.tick 8 12 (by rw [hl, List.append_nil]) (by simp only [List.length_append, List.length_cons, List.length_nil, be_length]) (by omega) (by omega) (by omega) (eight _ (by omega))
  have hz : (strOfNums l).size = l.length := strOf_size l
  refine ⟨?_, ?_, ?_⟩
  · show 20 ≤ (strOfNums l).size
    omega
  · show (20 : Int) = _
    omega
  · show closeR (strOfNums l) = _
    rw [closeR, v1, v2, v3, v4, v5, tick_id _ (by omega), Int.add_sub_cancel]
    conv => rhs; rw [hs]

theorem read_bytes6 {d : RecD} (hk : d.kind = 6) (hm : mayB d = true) (ho : d.ok) : kindOk 6 (bytesF d) ∧ kindQ 6 (bytesF d) = (bytesF d).size ∧ kindR 6 (bytesF d) = d := by
  obtain ⟨hr, he⟩ := mayB_and hm
  have hs := shape6 d hk he
  obtain ⟨hb, _⟩ := bytes_bs hm ho
  obtain ⟨h1, h2⟩ := right6 hk hr
  have ht2 := ho.tick.2
  have hl : bytesL d = [6] ++ be 8 d.tick := by rw [bytesL, if_neg (by omega), if_neg (by omega), if_neg (by omega), if_neg (by omega), if_neg (by omega)]
  obtain ⟨l, hle⟩ : ∃ l, l = bytesL d := ⟨_, rfl⟩
  rw [← hle] at hb hl
  have ht : bytesF d = strOfNums l := by rw [hle]; rfl
  rw [ht]
  have hlen : l.length = 9 := by rw [hl]; simp only [List.length_append, List.length_cons, List.length_nil, be_length]
  have v1 : getV (strOfNums l) 1 8 = d.tick := getV_of hb [6] [] d.tick 8 1 (by rw [hl, List.append_nil]) rfl (by omega) (by omega) (by omega) (eight _ (by omega))
  have hz : (strOfNums l).size = l.length := strOf_size l
  refine ⟨?_, ?_, ?_⟩
  · show 9 ≤ (strOfNums l).size
    omega
  · show (9 : Int) = _
    omega
  · show endR (strOfNums l) = _
    rw [endR, v1, tick_id _ (by omega)]
    conv => rhs; rw [hs, h2]

/-- What is laid is read. -/
theorem read_bytes {d : RecD} (hm : mayB d = true) (ho : d.ok) : readF (bytesF d) = (d, 0) := by
  have hk := may_kind hm
  obtain ⟨hb, _, h0⟩ := bytes_bs hm ho
  have hz : (bytesF d).size = (bytesL d).length := strOf_size _
  have key : ∀ k, d.kind = k → (kindOk k (bytesF d) ∧ kindQ k (bytesF d) = (bytesF d).size ∧ kindR k (bytesF d) = d) → readF (bytesF d) = (d, 0) := by
    rintro k hkk ⟨h1, h2, h3⟩
    have hv : getV (bytesF d) 0 1 = k := by
      refine (byte_of hb 0 h0).trans ?_
      rw [← hkk, bytesL]
      split
      · rename_i e; rw [e]; rfl
      split
      · rename_i e; rw [e]; rfl
      split
      · rename_i e; rw [e]; rfl
      split
      · rename_i e; rw [e]; rfl
      split
      · rename_i e; rw [e]; rfl
      · have e : d.kind = 6 := by omega
        rw [e]; rfl
    have := read_kind (t := bytesF d) (k := k) (by omega) hv (by omega) h1 h2 (by rw [h3]; exact hm)
    rw [this, h3]
  have h6 : d.kind = 1 ∨ d.kind = 2 ∨ d.kind = 3 ∨ d.kind = 4 ∨ d.kind = 5 ∨ d.kind = 6 := by omega
  rcases h6 with e | e | e | e | e | e
  · exact key 1 e (read_bytes1 e hm ho)
  · exact key 2 e (read_bytes2 e hm ho)
  · exact key 3 e (read_bytes3 e hm ho)
  · exact key 4 e (read_bytes4 e hm ho)
  · exact key 5 e (read_bytes5 e hm ho)
  · exact key 6 e (read_bytes6 e hm ho)

end Go.Proofs.YtkpmcjfolncmmaaGreatDoor

/- The document's within, outcome, scene, walked. Printed by wip/gen/refm.py. -/
namespace Go.Proofs.YtkpmcjfolncmmaaGreatDoor
open Go.RowKit

theorem rwithin_any (x lo hi : Int) (w : World) : Calls Tryz.prog 34 #[.int .i64 x, .int .i64 lo, .int .i64 hi] w fun e w' => e = .returned (.bool (withinB x lo hi)) ∧ w' = w := by
  go_enter Tryz.func34, Tryz.ntmps34
  unfold withinB
  by_cases h1 : lo ≤ x
  · by_cases h2 : x ≤ hi
    · have e1 : decide (lo ≤ x) = true := by simpa using h1
      have e2 : decide (x ≤ hi) = true := by simpa using h2
      go_wp2
      go_ret
      exact ⟨by simp [e1, e2], rfl⟩
    · have e1 : decide (lo ≤ x) = true := by simpa using h1
      have e2 : decide (x ≤ hi) = false := by simpa using h2
      go_wp2
      go_ret
      exact ⟨rfl, rfl⟩
  · have e1 : decide (lo ≤ x) = false := by simpa using h1
    go_wp2
    go_ret
    exact ⟨rfl, rfl⟩

set_option maxHeartbeats 2000000 in
theorem routcome_any (s x p : Int) (w : World) : Calls Tryz.prog 49 #[.agg #[.int .i64 s, .int .i64 x, .int .u64 p]] w fun e w' => e = .returned (.bool (toldB s x p)) ∧ Below w.heap.size w w' := by
  have hb : Below w.heap.size w (w.alloc (.cells #[.int .i64 s, .int .i64 x, .int .u64 p] 35)) := new_alloc _ _
  have HB := aside hb
  clear hb
  go_enter Tryz.func49, Tryz.ntmps49
  by_cases h3 : s = 3
  · subst h3
    by_cases h1 : x = -1
    · subst h1
      by_cases h2 : p = 0
      · subst h2
        go_wp2
        go_ret
        exact ⟨rfl, HB.out⟩
      · have e2 : (p == 0) = false := by simpa using h2
        have HR : Aside (toldB 3 (-1) p = false) := by simp [Aside, toldB, h2]
        go_wp2
        go_ret
        exact ⟨by rw [HR.out]; rfl, HB.out⟩
    · have e1 : (x == -1) = false := by simpa using h1
      have HR : Aside (toldB 3 x p = false) := by simp [Aside, toldB, h1]
      go_wp2
      go_ret
      exact ⟨by rw [HR.out]; rfl, HB.out⟩
  · have e3 : (s == 3) = false := by simpa using h3
    by_cases h24 : s = 2 ∨ s = 4
    · have HR0 : toldB s x p = (withinB x 0 7 && decide (p ≤ 16777216)) := by
        rcases h24 with rfl | rfl <;> simp [toldB]
      have HR := aside HR0
      clear HR0 h3
      rcases h24 with rfl | rfl
      all_goals
        go_wp2_with fail
        refine (rwithin_any x 0 7 _).mono ?_
        rintro e w1 ⟨rfl, rfl⟩
        by_cases hw : withinB x 0 7 = true
        · by_cases hp : p ≤ 16777216
          · have HF := HR.out
            rw [hw, decide_eq_true hp] at HF
            have HF := aside HF
            have e4 : decide (p ≤ 16777216) = true := decide_eq_true hp
            clear hp
            go_wp2
            go_ret
            exact ⟨by rw [HF.out]; rfl, HB.out⟩
          · have HF := HR.out
            rw [hw, decide_eq_false hp] at HF
            have HF := aside HF
            have e4 : decide (p ≤ 16777216) = false := decide_eq_false hp
            clear hp
            go_wp2
            go_ret
            exact ⟨by rw [HF.out]; rfl, HB.out⟩
        · have hw' : withinB x 0 7 = false := by simpa using hw
          have HF := HR.out
          rw [hw'] at HF
          have HF := aside HF
          clear hw
          go_wp2
          go_ret
          exact ⟨by rw [HF.out]; rfl, HB.out⟩
    · have h2 : ¬ s = 2 := fun h => h24 (.inl h)
      have h4 : ¬ s = 4 := fun h => h24 (.inr h)
      have e2 : (s == 2) = false := by simpa using h2
      have e4 : (s == 4) = false := by simpa using h4
      have HR : Aside (toldB s x p = false) := by simp [Aside, toldB, h2, h3, h4]
      clear h24 h2 h3 h4
      go_wp2
      go_ret
      exact ⟨by rw [HR.out]; rfl, HB.out⟩

/-- May what a scene's record has be, but its tick and round? -/
def sceneRB (d : RecD) : Bool := ((withinB d.carriers 1 8 && (withinB d.commit 1 64 && (withinB d.reveal 1 64 && (withinB d.scheme 0 1 && (decide ((d.lots.length : Int) ≤ 16) && decide ((d.owners.length : Int) ≤ 64)))))) && allTo (lotAt d.lots) d.lots.length) && allTo (inAt d.owners) d.owners.length
theorem sceneD_eq (d : RecD) : sceneD d = ((sceneRB d && decide (d.tick = 0)) && decide (d.round = 0)) := rfl

set_option maxHeartbeats 4000000 in
set_option maxRecDepth 100000 in
theorem rscene_any (rv : RecV) (d : RecD) (hrows : d.barred.length + d.lots.length + d.owners.length ≤ 1099511627776) (w : World) (h : RecAt w rv d) :
    Calls Tryz.prog 48 #[.agg (recCells rv)] w fun e w' => e = .returned (.bool (sceneRB d)) ∧ Below w.heap.size w w' := by
  obtain ⟨b, l, o, rfl, hb, hl, hw⟩ := h
  obtain ⟨L, hL⟩ : ∃ x, x = w.heap.size := ⟨_, rfl⟩
  obtain ⟨w0, hw0⟩ : ∃ z, z = w.alloc (.cells (recCells (d.toV b l o)) 38) := ⟨_, rfl⟩
  have HN0 : Aside (Below w.heap.size w w0) := by rw [hw0]; exact new_alloc _ _
  have HR0 : Aside (RecIn w0 L (d.toV b l o)) := by rw [hw0, hL]; exact RecIn.box _ _
  have HRL : Aside (RowL w0 l d.lots) := hl.on HN0.out
  have HRW : Aside (RowI w0 o d.owners) := hw.on HN0.out
  have HLN : Aside (d.lots.length ≤ 1099511627776 ∧ d.owners.length ≤ 1099511627776) := ⟨by omega, by omega⟩
  obtain ⟨al, cl, rfl, _, _⟩ := hl
  obtain ⟨ao, co, rfl, _, _⟩ := hw
  clear hb hrows
  obtain ⟨S, hS⟩ : ∃ S : Bool, S = sceneRB d := ⟨_, rfl⟩
  have HSB := aside hS
  rw [← hS]
  clear hS
  go_enter Tryz.func48, Tryz.ntmps48
  go_upto_region 1 with fail
  rw [← hw0, ← hL]
  clear hw0 hL
  obtain ⟨nl, hnl⟩ : ∃ n, n = d.lots.length := ⟨_, rfl⟩
  obtain ⟨no, hno⟩ : ∃ n, n = d.owners.length := ⟨_, rfl⟩
  have hln := HLN.out
  rw [← hnl, ← hno] at hln
  have c43 : w0.cell? ⟨L, 43, none⟩ = some (.int .i64 d.carriers) := HR0.out.carriers
  have c44 : w0.cell? ⟨L, 44, none⟩ = some (.int .i64 d.commit) := HR0.out.commit
  have c45 : w0.cell? ⟨L, 45, none⟩ = some (.int .i64 d.reveal) := HR0.out.reveal
  have c46 : w0.cell? ⟨L, 46, none⟩ = some (.int .i64 d.scheme) := HR0.out.scheme
  have c47 : w0.cell? ⟨L, 47, none⟩ = some (.slice al nl cl) := by rw [hnl]; exact HR0.out.lots
  have c48 : w0.cell? ⟨L, 48, none⟩ = some (.slice ao no co) := by rw [hno]; exact HR0.out.owners
  have HNL := aside hnl
  have HNO := aside hno
  clear hnl hno
  go_wp2_with fail
  refine (rwithin_any d.carriers 1 8 _).mono ?_
  rintro e wq ⟨rfl, hwq⟩
  rw [hwq]
  clear hwq wq
  obtain ⟨B0, hB0⟩ : ∃ B : Bool, B = withinB d.carriers 1 8 := ⟨_, rfl⟩
  rw [← hB0]
  cases B0 with
  | false =>
    have HF : Aside (S = false) := by rw [Aside, HSB.out, sceneRB, ← hB0]; simp
    clear hB0
    go_wp2_with fail
    go_ret
    exact ⟨by rw [HF.out]; rfl, HN0.out⟩
  | true =>
    have HB0 : Aside (withinB d.carriers 1 8 = true) := hB0.symm
    clear hB0
    go_wp2_with fail
    refine (rwithin_any d.commit 1 64 _).mono ?_
    rintro e wq ⟨rfl, hwq⟩
    rw [hwq]
    clear hwq wq
    obtain ⟨B1, hB1⟩ : ∃ B : Bool, B = withinB d.commit 1 64 := ⟨_, rfl⟩
    rw [← hB1]
    cases B1 with
    | false =>
      have HF : Aside (S = false) := by rw [Aside, HSB.out, sceneRB, ← hB1]; simp
      clear hB1
      go_wp2_with fail
      go_ret
      exact ⟨by rw [HF.out]; rfl, HN0.out⟩
    | true =>
      have HB1 : Aside (withinB d.commit 1 64 = true) := hB1.symm
      clear hB1
      go_wp2_with fail
      refine (rwithin_any d.reveal 1 64 _).mono ?_
      rintro e wq ⟨rfl, hwq⟩
      rw [hwq]
      clear hwq wq
      obtain ⟨B2, hB2⟩ : ∃ B : Bool, B = withinB d.reveal 1 64 := ⟨_, rfl⟩
      rw [← hB2]
      cases B2 with
      | false =>
        have HF : Aside (S = false) := by rw [Aside, HSB.out, sceneRB, ← hB2]; simp
        clear hB2
        go_wp2_with fail
        go_ret
        exact ⟨by rw [HF.out]; rfl, HN0.out⟩
      | true =>
        have HB2 : Aside (withinB d.reveal 1 64 = true) := hB2.symm
        clear hB2
        go_wp2_with fail
        refine (rwithin_any d.scheme 0 1 _).mono ?_
        rintro e wq ⟨rfl, hwq⟩
        rw [hwq]
        clear hwq wq
        obtain ⟨B3, hB3⟩ : ∃ B : Bool, B = withinB d.scheme 0 1 := ⟨_, rfl⟩
        rw [← hB3]
        cases B3 with
        | false =>
          have HF : Aside (S = false) := by rw [Aside, HSB.out, sceneRB, ← hB3]; simp
          clear hB3
          go_wp2_with fail
          go_ret
          exact ⟨by rw [HF.out]; rfl, HN0.out⟩
        | true =>
          have HB3 : Aside (withinB d.scheme 0 1 = true) := hB3.symm
          clear hB3
          by_cases hl16 : nl ≤ 16
          case neg =>
            have HF : Aside (S = false) := by rw [Aside, HSB.out, sceneRB, decide_eq_false (p := (d.lots.length : Int) ≤ 16) (by have := HNL.out; omega)]; simp
            have e16 : (16 : Int) < nl := by omega
            go_wp2_with fail
            go_ret
            exact ⟨by rw [HF.out]; rfl, HN0.out⟩
          have e16 : ¬ (16 : Int) < nl := by omega
          by_cases ho64 : no ≤ 64
          case neg =>
            have HF : Aside (S = false) := by rw [Aside, HSB.out, sceneRB, decide_eq_false (p := (d.owners.length : Int) ≤ 64) (by have := HNO.out; omega)]; simp
            have e64 : (64 : Int) < no := by omega
            go_wp2_with fail
            go_ret
            exact ⟨by rw [HF.out]; rfl, HN0.out⟩
          have e64 : ¬ (64 : Int) < no := by omega
          have HS2 : Aside (S = (allTo (lotAt d.lots) nl && allTo (inAt d.owners) no)) := by
            rw [Aside, HSB.out, sceneRB, HB0.out, HB1.out, HB2.out, HB3.out, decide_eq_true (p := (d.lots.length : Int) ≤ 16) (by have := HNL.out; omega), decide_eq_true (p := (d.owners.length : Int) ≤ 64) (by have := HNO.out; omega), ← HNL.out, ← HNO.out]; rfl
          have H0 : Aside (allTo (lotAt d.lots) 0 = true) := rfl
          go_wp2_with fail
          clear hl16 ho64 e16 e64 c43 c44 c45 c46 hln
          go_loopg [3] nl (fun gk v3 wr => ∃ k : Nat, k ≤ nl ∧ v3 = .int .i64 k ∧ nl - k ≤ gk ∧ Aside (allTo (lotAt d.lots) k = true) ∧ wr = w0)
          case atStart => exact ⟨0, by omega, rfl, by omega, H0, rfl⟩
          case round =>
            clear H0
            obtain ⟨k, hk, rfl, hgk, HA, hwr⟩ := hrel
            rw [hwr]
            clear hwr
            have hnl40 : nl ≤ 1099511627776 := by have := HLN.out; have := HNL.out; omega
            by_cases hlt : k < nl
            · have hki : (k : Int) < nl := by omega
              obtain ⟨a', cap', e, _, hj0⟩ := HRL.out
              obtain ⟨lb, lo, ea, hlb, hj⟩ := hj0 (by have := HNL.out; omega)
              obtain ⟨ea2, _, ec2⟩ := Value.slice.inj e
              clear hj0
              subst ec2
              subst ea2
              subst ea
              have hjk := hj k (by rw [← HNL.out]; exact hlt)
              obtain ⟨x, hxk⟩ : ∃ x, x = d.lots.getD k (0, 0) := ⟨_, rfl⟩
              rw [← hxk] at hjk
              obtain ⟨x, y⟩ := x
              have HXK := aside hxk
              obtain ⟨d0, d1⟩ := hjk
              clear hj hxk e
              go_wp2_with fail
              refine (rwithin_any x 0 63 _).mono ?_
              rintro e wq ⟨rfl, hwq⟩
              rw [hwq]
              clear hwq wq
              obtain ⟨B1, hB1⟩ : ∃ B : Bool, B = withinB x 0 63 := ⟨_, rfl⟩
              rw [← hB1]
              have HBA := aside hB1
              clear hB1
              cases B1 with
              | false =>
                have HF : Aside (S = false) := by
                  have := allTo_no (lotAt d.lots) k nl hlt (by rw [lotAt, ← HXK.out, lotB, ← HBA.out]; rfl)
                  rw [Aside, HS2.out, this]; rfl
                go_wp2_with fail
                go_ret
                exact ⟨by rw [HF.out]; rfl, HN0.out⟩
              | true =>
                go_wp2_with fail
                refine (rwithin_any y 0 16777216 _).mono ?_
                rintro e wq ⟨rfl, hwq⟩
                rw [hwq]
                clear hwq wq
                obtain ⟨B2, hB2⟩ : ∃ B : Bool, B = withinB y 0 16777216 := ⟨_, rfl⟩
                rw [← hB2]
                have HBB := aside hB2
                clear hB2
                cases B2 with
                | false =>
                  have HF : Aside (S = false) := by
                    have := allTo_no (lotAt d.lots) k nl hlt (by rw [lotAt, ← HXK.out, lotB, ← HBB.out]; simp)
                    rw [Aside, HS2.out, this]; rfl
                  go_wp2_with fail
                  go_ret
                  exact ⟨by rw [HF.out]; rfl, HN0.out⟩
                | true =>
                  have HA2 : Aside (allTo (lotAt d.lots) (k + 1) = true) := by
                    rw [Aside, allTo, HA.out, lotAt, ← HXK.out, lotB, ← HBA.out, ← HBB.out]; rfl
                  go_wp2_with fail
                  go_roundg (nl - (k + 1))
                  case measure => omega
                  case rel => exact ⟨k + 1, by omega, rfl, by omega, HA2, rfl⟩
            · have hki : ¬ (k : Int) < nl := by omega
              have hkn : k = nl := by omega
              have HS3 : Aside (S = allTo (inAt d.owners) no) := by rw [Aside, HS2.out, ← hkn, HA.out]; rfl
              have H0 : Aside (allTo (inAt d.owners) 0 = true) := rfl
              have hno40 : no ≤ 1099511627776 := by have := HLN.out; have := HNO.out; omega
              clear hkn hlt HA hgk
              go_wp2_with fail
              go_loopg [4] no (fun gk v4 wr => ∃ k : Nat, k ≤ no ∧ v4 = .int .i64 k ∧ no - k ≤ gk ∧ Aside (allTo (inAt d.owners) k = true) ∧ wr = w0)
              case atStart => exact ⟨0, by omega, rfl, by omega, H0, rfl⟩
              case round =>
                clear H0
                obtain ⟨j, hj, rfl, hgj, HA, hwr⟩ := hrel
                rw [hwr]
                clear hwr
                by_cases hlt : j < no
                · have hji : (j : Int) < no := by omega
                  obtain ⟨a', cap', e, _, hj0⟩ := HRW.out
                  obtain ⟨lb, lo, ea, hlb, hjx⟩ := hj0 (by have := HNO.out; omega)
                  obtain ⟨ea2, _, ec2⟩ := Value.slice.inj e
                  clear hj0
                  subst ec2
                  subst ea2
                  subst ea
                  have d0 := hjx j (by rw [← HNO.out]; exact hlt)
                  obtain ⟨x, hxk⟩ : ∃ x, x = d.owners.getD j 0 := ⟨_, rfl⟩
                  rw [← hxk] at d0
                  have HXK := aside hxk
                  clear hjx hxk e
                  go_wp2_with fail
                  refine (rwithin_any x 0 7 _).mono ?_
                  rintro e wq ⟨rfl, hwq⟩
                  rw [hwq]
                  clear hwq wq
                  obtain ⟨B1, hB1⟩ : ∃ B : Bool, B = withinB x 0 7 := ⟨_, rfl⟩
                  rw [← hB1]
                  have HBA := aside hB1
                  clear hB1
                  cases B1 with
                  | false =>
                    have HF : Aside (S = false) := by
                      have := allTo_no (inAt d.owners) j no hlt (by rw [inAt, ← HXK.out, ← HBA.out])
                      rw [Aside, HS3.out, this]
                    go_wp2_with fail
                    go_ret
                    exact ⟨by rw [HF.out]; rfl, HN0.out⟩
                  | true =>
                    have HA2 : Aside (allTo (inAt d.owners) (j + 1) = true) := by
                      rw [Aside, allTo, HA.out, inAt, ← HXK.out, ← HBA.out]; rfl
                    go_wp2_with fail
                    go_roundg (no - (j + 1))
                    case measure => omega
                    case rel => exact ⟨j + 1, by omega, rfl, by omega, HA2, rfl⟩
                · have hji : ¬ (j : Int) < no := by omega
                  have hjn : j = no := by omega
                  have HF : Aside (S = true) := by rw [Aside, HS3.out, ← hjn]; exact HA.out
                  clear hjn hlt HA hgj
                  go_wp2_with fail
                  go_ret
                  exact ⟨by rw [HF.out]; rfl, HN0.out⟩

end Go.Proofs.YtkpmcjfolncmmaaGreatDoor

/- What bytes read as is a record of right numbers; bytes that read as a record are its own. Plain. -/
namespace Go.Proofs.YtkpmcjfolncmmaaGreatDoor
open Go.RowKit

theorem getV_u8 (t : ByteArray) (p : Int) : 0 ≤ getV t p 1 ∧ getV t p 1 ≤ 255 := by
  have := getV_bound t p 1 (by omega)
  simp at this
  omega
theorem getV_u32 (t : ByteArray) (p : Int) : 0 ≤ getV t p 4 ∧ getV t p 4 ≤ 4294967295 := by
  have := getV_bound t p 4 (by omega)
  simp at this
  omega
theorem getV_u64 (t : ByteArray) (p : Int) : 0 ≤ getV t p 8 ∧ getV t p 8 ≤ 18446744073709551615 := by
  have := getV_bound t p 8 (by omega)
  simp at this
  omega
theorem wrap64_in' (x : Int) : -9223372036854775808 ≤ wrap64 x ∧ wrap64 x ≤ 9223372036854775807 := by unfold wrap64; omega
theorem cntR_le (t : ByteArray) (p : Int) : cntR t p ≤ 255 := by have := getV_u8 t p; unfold cntR; omega
theorem rep_bs : Bs (List.replicate 32 0) := fun x hx => by rw [(List.mem_replicate.1 hx).2]; omega

theorem kind_cases {k : Int} (hk : 1 ≤ k ∧ k ≤ 6) : k = 1 ∨ k = 2 ∨ k = 3 ∨ k = 4 ∨ k = 5 ∨ k = 6 := by omega

theorem kindR_ok {k : Int} (hk : 1 ≤ k ∧ k ≤ 6) (t : ByteArray) : (kindR k t).ok := by
  have u8 := getV_u8 t
  have u64 := getV_u64 t
  have z := rep_bs
  have zl : (List.replicate 32 (0 : Int)).length = 32 := List.length_replicate
  have small : ∀ p, -9223372036854775808 ≤ getV t p 1 ∧ getV t p 1 ≤ 9223372036854775807 := fun p => by have := u8 p; omega
  have o0 : (-9223372036854775808 : Int) ≤ 0 ∧ (0 : Int) ≤ 9223372036854775807 := by omega
  have p0 : (0 : Int) ≤ 0 ∧ (0 : Int) ≤ 18446744073709551615 := by omega
  have kr : ∀ n : Int, 1 ≤ n ∧ n ≤ 6 → (-9223372036854775808 ≤ n ∧ n ≤ 9223372036854775807) := fun n h => by omega
  have r0 : (0 : Nat) + 0 + 0 ≤ 1099511627776 := by decide
  rcases kind_cases hk with rfl | rfl | rfl | rfl | rfl | rfl
  · exact ⟨zl, z, o0, p0, p0, p0, kr 1 hk, o0, o0, small 1, small 2, small 3, small 4, by
      show 0 + (lotsTo t 5 (cntR t 5)).length + (intsTo t (sceneP t) (cntR t (sceneP t))).length ≤ _
      have := cntR_le t 5
      have := cntR_le t (sceneP t)
      rw [lotsTo_length, intsTo_length]; omega⟩
  · exact ⟨zl, z, wrap64_in' _, p0, p0, p0, kr 2 hk, small 2, o0, o0, o0, o0, o0, by
      show (intsTo t 11 (cntR t 11)).length + 0 + 0 ≤ _
      have := cntR_le t 11
      rw [intsTo_length]; omega⟩
  · refine ⟨by show (digTo t 32).length = 32; simp [digTo], fun x hx => ?_, wrap64_in' _, p0, p0, p0, kr 3 hk, o0, small 2, o0, o0, o0, o0, r0⟩
    obtain ⟨i, _, rfl⟩ := List.mem_map.1 hx
    exact u8 _
  · exact ⟨zl, z, wrap64_in' _, u64 3, u64 11, p0, kr 4 hk, o0, small 2, o0, o0, o0, o0, r0⟩
  · exact ⟨zl, z, wrap64_in' _, p0, p0, u64 4, kr 5 hk, o0, o0, o0, o0, o0, o0, r0⟩
  · exact ⟨zl, z, wrap64_in' _, p0, p0, p0, kr 6 hk, o0, o0, o0, o0, o0, o0, r0⟩

theorem kindQ_le {k : Int} (hk : 1 ≤ k ∧ k ≤ 6) (t : ByteArray) (h : kindOk k t) : 0 ≤ kindQ k t ∧ kindQ k t ≤ t.size := by
  rcases kind_cases hk with rfl | rfl | rfl | rfl | rfl | rfl
  · have h' : sceneOk t := h
    show 0 ≤ sceneQ t ∧ sceneQ t ≤ t.size
    obtain ⟨_, _, h2, h3⟩ := h'
    unfold sceneQ
    unfold sceneP at h2 h3 ⊢
    omega
  · have h' : openOk t := h
    show 0 ≤ openQ t ∧ openQ t ≤ t.size
    obtain ⟨_, h2, h3⟩ := h'
    unfold openQ
    omega
  · have h' : 43 ≤ t.size := h
    show (0 : Int) ≤ 43 ∧ (43 : Int) ≤ t.size
    omega
  · have h' : 27 ≤ t.size := h
    show (0 : Int) ≤ 27 ∧ (27 : Int) ≤ t.size
    omega
  · have h' : 20 ≤ t.size := h
    show (0 : Int) ≤ 20 ∧ (20 : Int) ≤ t.size
    omega
  · have h' : 9 ≤ t.size := h
    show (0 : Int) ≤ 9 ∧ (9 : Int) ≤ t.size
    omega

theorem kindR_kind {k : Int} (hk : 1 ≤ k ∧ k ≤ 6) (t : ByteArray) : (kindR k t).kind = k := by
  rcases kind_cases hk with rfl | rfl | rfl | rfl | rfl | rfl <;> rfl

theorem bytes_of_read {k : Int} (hk : 1 ≤ k ∧ k ≤ 6) (t : ByteArray) (hv : getV t 0 1 = k) (h : kindOk k t) (hq : kindQ k t = t.size) (hm : mayB (kindR k t) = true) : bytesL (kindR k t) = numsOf t := by
  obtain ⟨hr, _⟩ := mayB_and hm
  have hz := t.size
  have tk : ∀ p, 0 ≤ wrap64 (getV t p 8) → wrap64 (getV t p 8) = getV t p 8 := fun p h => (tick_of _ (getV_bound t p 8 (by omega)) h).1
  have b8 : ∀ p : Nat, p + 8 ≤ t.size → be 8 (getV t p 8) = seg (byteOf t) p 8 := fun p h => be_getV t p 8 (by omega) (by omega) h
  have b1 : ∀ p : Nat, p + 1 ≤ t.size → getV t p 1 = byteOf t p := fun p h => getV_one t p h
  rw [numsOf_seg]
  rcases kind_cases hk with rfl | rfl | rfl | rfl | rfl | rfl
  · have h' : sceneOk t := h
    have hq' : sceneQ t = t.size := hq
    obtain ⟨h5, ⟨g1, g2⟩, g3, g4⟩ := h'
    show bytesL (sceneR t) = _
    have e0 : getV t 0 1 = byteOf t 0 := b1 0 (by omega)
    have e1 : getV t 1 1 = byteOf t 1 := b1 1 (by omega)
    have e2 : getV t 2 1 = byteOf t 2 := b1 2 (by omega)
    have e3 : getV t 3 1 = byteOf t 3 := b1 3 (by omega)
    have e4 : getV t 4 1 = byteOf t 4 := b1 4 (by omega)
    have e5 : getV t 5 1 = byteOf t 5 := b1 5 (by omega)
    obtain ⟨n, hn⟩ : ∃ n, n = cntR t 5 := ⟨_, rfl⟩
    have hP : sceneP t = ((6 + 5 * n : Nat) : Int) := by unfold sceneP; omega
    obtain ⟨m, hm2⟩ : ∃ m, m = cntR t (sceneP t) := ⟨_, rfl⟩
    rw [hP] at g3 g4 hm2
    have hsz : t.size = 6 + 5 * n + 1 + m := by unfold sceneQ at hq'; rw [hP, ← hm2] at hq'; omega
    have e6 : getV t ((6 + 5 * n : Nat) : Int) 1 = byteOf t (6 + 5 * n) := b1 (6 + 5 * n) (by omega)
    have c5 : (n : Int) = byteOf t 5 := by rw [hn, cntR, ← e5, Int.toNat_of_nonneg (getV_u8 t 5).1]
    have c6 : (m : Int) = byteOf t (6 + 5 * n) := by rw [hm2, cntR, ← e6, Int.toNat_of_nonneg (getV_u8 t _).1]
    have f1 : flatL (lotsTo t 5 n) = seg (byteOf t) 6 (5 * n) := flat_lotsTo t 5 n (by omega)
    have f2 : intsTo t ((6 + 5 * n : Nat) : Int) m = seg (byteOf t) (6 + 5 * n + 1) m := intsTo_seg t (6 + 5 * n) m (by omega)
    rw [bytesL, if_pos (show (sceneR t).kind = 1 from rfl)]
    show [1, getV t 1 1, getV t 2 1, getV t 3 1, getV t 4 1] ++ rowLL (lotsTo t 5 (cntR t 5)) ++ rowIL (intsTo t (sceneP t) (cntR t (sceneP t))) = _
    rw [hP, ← hm2, ← hn, rowLL, rowIL, lotsTo_length, intsTo_length, f1, f2, c5, c6, e1, e2, e3, e4, ← hv, e0, hsz]
    rw [show 6 + 5 * n + 1 + m = 5 + (1 + 5 * n) + (1 + m) by omega, seg_add, seg_add, seg_add _ _ 1 (5 * n), seg_add _ _ 1 m, seg_one, seg_one]
    rw [show 0 + (5 + (1 + 5 * n)) = 6 + 5 * n by omega]
    rfl
  · have h' : openOk t := h
    have hq' : openQ t = t.size := hq
    obtain ⟨h11, g1, g2⟩ := h'
    show bytesL (openR t) = _
    obtain ⟨⟨t0, _⟩, _⟩ := right2 rfl hr
    have e0 : getV t 0 1 = byteOf t 0 := b1 0 (by omega)
    have e1 : getV t 1 1 = byteOf t 1 := b1 1 (by omega)
    have e2 : getV t 2 1 = byteOf t 2 := b1 2 (by omega)
    have e3 : be 8 (getV t 3 8) = seg (byteOf t) 3 8 := b8 3 (by omega)
    have e4 : getV t 11 1 = byteOf t 11 := b1 11 (by omega)
    obtain ⟨n, hn⟩ : ∃ n, n = cntR t 11 := ⟨_, rfl⟩
    have hsz : t.size = 12 + n := by unfold openQ at hq'; omega
    have c5 : (n : Int) = byteOf t 11 := by rw [hn, cntR, ← e4, Int.toNat_of_nonneg (getV_u8 t 11).1]
    have f2 : intsTo t 11 n = seg (byteOf t) 12 n := intsTo_seg t 11 n (by omega)
    rw [bytesL, if_neg (show ¬ (openR t).kind = 1 from (by decide : ¬ (2 : Int) = 1)), if_pos (show (openR t).kind = 2 from rfl)]
    show [2, getV t 1 1, getV t 2 1] ++ be 8 (wrap64 (getV t 3 8)) ++ rowIL (intsTo t 11 (cntR t 11)) = _
    rw [tk 3 t0, e3, ← hn, rowIL, intsTo_length, f2, c5, e1, e2, ← hv, e0, hsz]
    rw [show 12 + n = 3 + 8 + (1 + n) by omega, seg_add, seg_add, seg_add _ _ 1 n, seg_one]
    rfl
  · have h' : 43 ≤ t.size := h
    have hq' : (43 : Int) = t.size := hq
    show bytesL (commitR t) = _
    obtain ⟨⟨t0, _⟩, _⟩ := right3 rfl hr
    have e0 : getV t 0 1 = byteOf t 0 := b1 0 (by omega)
    have e1 : getV t 1 1 = byteOf t 1 := b1 1 (by omega)
    have e2 : getV t 2 1 = byteOf t 2 := b1 2 (by omega)
    have e3 : be 8 (getV t 35 8) = seg (byteOf t) 35 8 := b8 35 (by omega)
    have e4 : digTo t 32 = seg (byteOf t) 3 32 := by
      apply List.map_congr_left
      intro i hi
      have hi := List.mem_range.1 hi
      have := b1 (3 + i) (by omega)
      rw [← this]
      congr 1
    have hsz : t.size = 43 := by omega
    rw [bytesL, if_neg (show ¬ (commitR t).kind = 1 from (by decide : ¬ (3 : Int) = 1)), if_neg (show ¬ (commitR t).kind = 2 from (by decide : ¬ (3 : Int) = 2)), if_pos (show (commitR t).kind = 3 from rfl)]
    show [3, getV t 1 1, getV t 2 1] ++ digTo t 32 ++ be 8 (wrap64 (getV t 35 8)) = _
    rw [tk 35 t0, e3, e4, e1, e2, ← hv, e0, hsz]
    rw [show 43 = 3 + 32 + 8 by omega, seg_add, seg_add]
    rfl
  · have h' : 27 ≤ t.size := h
    have hq' : (27 : Int) = t.size := hq
    show bytesL (revealR t) = _
    obtain ⟨⟨⟨t0, _⟩, _⟩, _⟩ := right4 rfl hr
    have e0 : getV t 0 1 = byteOf t 0 := b1 0 (by omega)
    have e1 : getV t 1 1 = byteOf t 1 := b1 1 (by omega)
    have e2 : getV t 2 1 = byteOf t 2 := b1 2 (by omega)
    have e3 : be 8 (getV t 3 8) = seg (byteOf t) 3 8 := b8 3 (by omega)
    have e4 : be 8 (getV t 11 8) = seg (byteOf t) 11 8 := b8 11 (by omega)
    have e5 : be 8 (getV t 19 8) = seg (byteOf t) 19 8 := b8 19 (by omega)
    have hsz : t.size = 27 := by omega
    rw [bytesL, if_neg (show ¬ (revealR t).kind = 1 from (by decide : ¬ (4 : Int) = 1)), if_neg (show ¬ (revealR t).kind = 2 from (by decide : ¬ (4 : Int) = 2)), if_neg (show ¬ (revealR t).kind = 3 from (by decide : ¬ (4 : Int) = 3)), if_pos (show (revealR t).kind = 4 from rfl)]
    show [4, getV t 1 1, getV t 2 1] ++ be 8 (getV t 3 8) ++ be 8 (getV t 11 8) ++ be 8 (wrap64 (getV t 19 8)) = _
    rw [tk 19 t0, e3, e4, e5, e1, e2, ← hv, e0, hsz]
    rw [show 27 = 3 + 8 + 8 + 8 by omega, seg_add, seg_add, seg_add]
    rfl
  · have h' : 20 ≤ t.size := h
    have hq' : (20 : Int) = t.size := hq
    show bytesL (closeR t) = _
    obtain ⟨⟨t0, _⟩, _⟩ := right5 rfl hr
    have e0 : getV t 0 1 = byteOf t 0 := b1 0 (by omega)
    have e1 : getV t 1 1 = byteOf t 1 := b1 1 (by omega)
    have e2 : getV t 2 1 = byteOf t 2 := b1 2 (by omega)
    have e2' : getV t 3 1 = byteOf t 3 := b1 3 (by omega)
    have e3 : be 8 (getV t 4 8) = seg (byteOf t) 4 8 := b8 4 (by omega)
    have e4 : be 8 (getV t 12 8) = seg (byteOf t) 12 8 := b8 12 (by omega)
    have hsz : t.size = 20 := by omega
    rw [bytesL, if_neg (show ¬ (closeR t).kind = 1 from (by decide : ¬ (5 : Int) = 1)), if_neg (show ¬ (closeR t).kind = 2 from (by decide : ¬ (5 : Int) = 2)), if_neg (show ¬ (closeR t).kind = 3 from (by decide : ¬ (5 : Int) = 3)), if_neg (show ¬ (closeR t).kind = 4 from (by decide : ¬ (5 : Int) = 4)), if_pos (show (closeR t).kind = 5 from rfl)]
    show [5, getV t 1 1, getV t 2 1, getV t 3 1 - 1 + 1] ++ be 8 (getV t 4 8) ++ be 8 (wrap64 (getV t 12 8)) = _
    rw [tk 12 t0, e3, e4, e1, e2, e2', Int.sub_add_cancel, ← hv, e0, hsz]
    rw [show 20 = 4 + 8 + 8 by omega, seg_add, seg_add]
    rfl
  · have h' : 9 ≤ t.size := h
    have hq' : (9 : Int) = t.size := hq
    show bytesL (endR t) = _
    obtain ⟨⟨t0, _⟩, _⟩ := right6 rfl hr
    have e0 : getV t 0 1 = byteOf t 0 := b1 0 (by omega)
    have e3 : be 8 (getV t 1 8) = seg (byteOf t) 1 8 := b8 1 (by omega)
    have hsz : t.size = 9 := by omega
    rw [bytesL, if_neg (show ¬ (endR t).kind = 1 from (by decide : ¬ (6 : Int) = 1)), if_neg (show ¬ (endR t).kind = 2 from (by decide : ¬ (6 : Int) = 2)), if_neg (show ¬ (endR t).kind = 3 from (by decide : ¬ (6 : Int) = 3)), if_neg (show ¬ (endR t).kind = 4 from (by decide : ¬ (6 : Int) = 4)), if_neg (show ¬ (endR t).kind = 5 from (by decide : ¬ (6 : Int) = 5))]
    show [6] ++ be 8 (wrap64 (getV t 1 8)) = _
    rw [tk 1 t0, e3, ← hv, e0, hsz]
    rw [show 9 = 1 + 8 by omega, seg_add]
    rfl

/-- Bytes that read as a record are just its own. -/
theorem bytes_read {t : ByteArray} {d : RecD} (h : readF t = (d, 0)) : mayB d = true ∧ d.ok ∧ bytesF d = t := by
  unfold readF at h
  split at h
  · cases h
  split at h
  · cases h
  rename_i h1 h2
  have hw : withinB (getV t 0 1) 1 6 = true := by simpa using h2
  have hk := (within_iff _ _ _).1 hw
  split at h
  · cases h
  split at h
  · cases h
  rename_i h3 h4
  have hok : kindOk (getV t 0 1) t := Classical.not_not.1 h3
  obtain ⟨h5, h6⟩ := not_or.1 h4
  have hm : mayB (kindR (getV t 0 1) t) = true := by simpa using h6
  have hq := kindQ_le hk t hok
  have hd : kindR (getV t 0 1) t = d := congrArg Prod.fst h
  refine ⟨by rw [← hd]; exact hm, by rw [← hd]; exact kindR_ok hk t, ?_⟩
  rw [← hd, bytesF, bytes_of_read hk t rfl hok (by omega) hm, strOf_numsOf]

theorem read_ok (t : ByteArray) : (readF t).1.ok := by
  have h0 : ({} : RecD).ok := ⟨List.length_replicate, rep_bs, by decide, by decide, by decide, by decide, by decide, by decide, by decide, by decide, by decide, by decide, by decide, by decide⟩
  unfold readF
  split
  · exact h0
  split
  · exact h0
  rename_i h2
  have hk := (within_iff _ _ _).1 (show withinB (getV t 0 1) 1 6 = true by simpa using h2)
  split
  · exact h0
  split
  · exact h0
  · exact kindR_ok hk t
theorem read_code (t : ByteArray) : (readF t).2 = 0 ∨ (readF t).2 = 14 ∨ (readF t).2 = 15 := by
  unfold readF
  split
  · exact .inr (.inl rfl)
  split
  · exact .inr (.inr rfl)
  split
  · exact .inr (.inl rfl)
  split
  · exact .inr (.inr rfl)
  · exact .inl rfl
theorem read_none {t : ByteArray} (h : (readF t).2 ≠ 0) : (readF t).1 = {} := by
  revert h
  unfold readF
  split
  · intro _; rfl
  split
  · intro _; rfl
  split
  · intro _; rfl
  split
  · intro _; rfl
  · intro h; exact absurd rfl h

end Go.Proofs.YtkpmcjfolncmmaaGreatDoor
