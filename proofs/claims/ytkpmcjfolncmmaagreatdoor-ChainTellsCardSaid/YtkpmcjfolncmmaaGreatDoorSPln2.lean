/- Records that may be, their bytes, and what bytes read as; what is laid is read, and what is read was laid so. Plain. -/
import Derived.Test.YtkpmcjfolncmmaaGreatDoorSOct2
import Derived.Test.YtkpmcjfolncmmaaGreatDoorSMay1
set_option linter.all false
namespace Go.Proofs.YtkpmcjfolncmmaaGreatDoor
open Go.RowKit
def restOf (d : RecD) : RecD :=
  if d.kind = 1 then { d with carriers := 0, commit := 0, reveal := 0, scheme := 0, lots := [], owners := [] }
  else if d.kind = 2 then { d with lot := 0, barred := [] }
  else if d.kind = 3 then { d with carrier := 0, dig := List.replicate 32 0 }
  else if d.kind = 4 then { d with carrier := 0, bid := 0, nonce := 0 }
  else if d.kind = 5 then { d with state := 0, winner := 0, price := 0 }
  else d
def emptyD (d : RecD) : Bool := decide (d = { kind := d.kind, round := d.round, tick := d.tick })
def baseB (d : RecD) : Bool := decide (0 ≤ d.tick) && withinB d.round 0 15
def sceneD (d : RecD) : Bool := ((((withinB d.carriers 1 8 && (withinB d.commit 1 64 && (withinB d.reveal 1 64 && (withinB d.scheme 0 1 && (decide ((d.lots.length : Int) ≤ 16) && decide ((d.owners.length : Int) ≤ 64)))))) && allTo (lotAt d.lots) d.lots.length) && allTo (inAt d.owners) d.owners.length) && decide (d.tick = 0)) && decide (d.round = 0)
def rightB (d : RecD) : Bool :=
  if d.kind = 1 then sceneD d
  else if d.kind = 2 then (baseB d && withinB d.lot 0 15) && allTo (riseAt d.barred) d.barred.length
  else if d.kind = 3 then baseB d && withinB d.carrier 0 7
  else if d.kind = 4 then (baseB d && withinB d.carrier 0 7) && decide (d.bid ≤ 4294967296)
  else if d.kind = 5 then baseB d && toldB d.state d.winner d.price
  else if d.kind = 6 then baseB d && decide (d.round = 0)
  else false
def mayB (d : RecD) : Bool := rightB d && emptyD (restOf d)
structure RecD.ok (d : RecD) : Prop where
  len : d.dig.length = 32
  dig : Bs d.dig
  tick : -9223372036854775808 ≤ d.tick ∧ d.tick ≤ 9223372036854775807
  bid : 0 ≤ d.bid ∧ d.bid ≤ 18446744073709551615
  nonce : 0 ≤ d.nonce ∧ d.nonce ≤ 18446744073709551615
  price : 0 ≤ d.price ∧ d.price ≤ 18446744073709551615
  kind : -9223372036854775808 ≤ d.kind ∧ d.kind ≤ 9223372036854775807
  lot : -9223372036854775808 ≤ d.lot ∧ d.lot ≤ 9223372036854775807
  carrier : -9223372036854775808 ≤ d.carrier ∧ d.carrier ≤ 9223372036854775807
  carriers : -9223372036854775808 ≤ d.carriers ∧ d.carriers ≤ 9223372036854775807
  commit : -9223372036854775808 ≤ d.commit ∧ d.commit ≤ 9223372036854775807
  reveal : -9223372036854775808 ≤ d.reveal ∧ d.reveal ≤ 9223372036854775807
  scheme : -9223372036854775808 ≤ d.scheme ∧ d.scheme ≤ 9223372036854775807
  rows : d.barred.length + d.lots.length + d.owners.length ≤ 1099511627776
def rowIL (xs : List Int) : List Int := (xs.length : Int) :: xs
def flatL (xs : List (Int × Int)) : List Int := xs.flatMap fun x => x.1 :: be 4 x.2
def rowLL (xs : List (Int × Int)) : List Int := (xs.length : Int) :: flatL xs
def bytesL (d : RecD) : List Int :=
  if d.kind = 1 then [1, d.carriers, d.commit, d.reveal, d.scheme] ++ rowLL d.lots ++ rowIL d.owners
  else if d.kind = 2 then [2, d.round, d.lot] ++ be 8 d.tick ++ rowIL d.barred
  else if d.kind = 3 then [3, d.round, d.carrier] ++ d.dig ++ be 8 d.tick
  else if d.kind = 4 then [4, d.round, d.carrier] ++ be 8 d.bid ++ be 8 d.nonce ++ be 8 d.tick
  else if d.kind = 5 then [5, d.round, d.state, d.winner + 1] ++ be 8 d.price ++ be 8 d.tick
  else [6] ++ be 8 d.tick
def bytesF (d : RecD) : ByteArray := strOfNums (bytesL d)
def kindOk (k : Int) (t : ByteArray) : Prop :=
  if k = 1 then sceneOk t else if k = 2 then openOk t else if k = 3 then commitOk t else if k = 4 then revealOk t else if k = 5 then closeOk t else endOk t
instance (k : Int) (t : ByteArray) : Decidable (kindOk k t) := by unfold kindOk; infer_instance
def kindR (k : Int) (t : ByteArray) : RecD :=
  if k = 1 then sceneR t else if k = 2 then openR t else if k = 3 then commitR t else if k = 4 then revealR t else if k = 5 then closeR t else endR t
def kindQ (k : Int) (t : ByteArray) : Int :=
  if k = 1 then sceneQ t else if k = 2 then openQ t else if k = 3 then commitQ t else if k = 4 then revealQ t else if k = 5 then closeQ t else endQ t
def readF (t : ByteArray) : RecD × Int :=
  if (t.size : Int) < 1 then ({}, 14)
  else if withinB (getV t 0 1) 1 6 = false then ({}, 15)
  else if ¬ kindOk (getV t 0 1) t then ({}, 14)
  else if 0 < (t.size : Int) - kindQ (getV t 0 1) t ∨ mayB (kindR (getV t 0 1) t) = false then ({}, 15)
  else (kindR (getV t 0 1) t, 0)
theorem flatL_length (xs : List (Int × Int)) : (flatL xs).length = 5 * xs.length := by
  induction xs with
  | nil => rfl
  | cons x xs ih =>
    show (x.1 :: be 4 x.2 ++ flatL xs).length = _
    rw [List.length_append, List.length_cons, be_length, ih, List.length_cons]
    omega
theorem flatL_bs (xs : List (Int × Int)) (h : ∀ x ∈ xs, 0 ≤ x.1 ∧ x.1 ≤ 255) : Bs (flatL xs) := by
  induction xs with
  | nil => exact Bs.nil
  | cons x xs ih =>
    show Bs (x.1 :: be 4 x.2 ++ flatL xs)
    exact (Bs.cons (h x (by simp)) (be_bs 4 _)).append (ih fun y hy => h y (by simp [hy]))
theorem lotsTo_length (t : ByteArray) (p : Int) (k : Nat) : (lotsTo t p k).length = k := by simp [lotsTo]
theorem intsTo_length (t : ByteArray) (p : Int) (k : Nat) : (intsTo t p k).length = k := by simp [intsTo]
end Go.Proofs.YtkpmcjfolncmmaaGreatDoor
namespace Go.Proofs.YtkpmcjfolncmmaaGreatDoor
open Go.RowKit
theorem mayB_and {d : RecD} (h : mayB d = true) : rightB d = true ∧ emptyD (restOf d) = true := by rw [mayB, Bool.and_eq_true] at h; exact h
theorem may_kind {d : RecD} (h : mayB d = true) : 1 ≤ d.kind ∧ d.kind ≤ 6 := by
  have h1 := (mayB_and h).1
  unfold rightB at h1
  by_cases e1 : d.kind = 1
  · omega
  by_cases e2 : d.kind = 2
  · omega
  by_cases e3 : d.kind = 3
  · omega
  by_cases e4 : d.kind = 4
  · omega
  by_cases e5 : d.kind = 5
  · omega
  by_cases e6 : d.kind = 6
  · omega
  rw [if_neg e1, if_neg e2, if_neg e3, if_neg e4, if_neg e5, if_neg e6] at h1
  cases h1
theorem within_iff (x lo hi : Int) : withinB x lo hi = true ↔ lo ≤ x ∧ x ≤ hi := by simp [withinB]
theorem base_iff (d : RecD) : baseB d = true ↔ 0 ≤ d.tick ∧ 0 ≤ d.round ∧ d.round ≤ 15 := by simp [baseB, within_iff]
theorem right1 {d : RecD} (hk : d.kind = 1) (h : rightB d = true) : (1 ≤ d.carriers ∧ d.carriers ≤ 8) ∧ (1 ≤ d.commit ∧ d.commit ≤ 64) ∧ (1 ≤ d.reveal ∧ d.reveal ≤ 64) ∧ (0 ≤ d.scheme ∧ d.scheme ≤ 1) ∧ d.lots.length ≤ 16 ∧ d.owners.length ≤ 64 ∧ (∀ x ∈ d.lots, (0 ≤ x.1 ∧ x.1 ≤ 63) ∧ 0 ≤ x.2 ∧ x.2 ≤ 16777216) ∧ (∀ x ∈ d.owners, 0 ≤ x ∧ x ≤ 7) ∧ d.tick = 0 ∧ d.round = 0 := by
  rw [rightB, if_pos hk] at h
  simp only [sceneD, Bool.and_eq_true, within_iff, decide_eq_true_eq, allTo_iff] at h
  obtain ⟨⟨⟨⟨⟨h1, h2, h3, h4, h5, h6⟩, h7⟩, h8⟩, h9⟩, h10⟩ := h
  refine ⟨h1, h2, h3, h4, by omega, by omega, fun x hx => ?_, fun x hx => ?_, h9, h10⟩
  · obtain ⟨k, hk, rfl⟩ := List.mem_iff_getElem.1 hx
    have := h7 k hk
    simp only [lotAt, lotB, List.getD_eq_getElem?_getD, List.getElem?_eq_getElem hk, Option.getD_some, Bool.and_eq_true, within_iff] at this
    exact this
  · obtain ⟨k, hk, rfl⟩ := List.mem_iff_getElem.1 hx
    have := h8 k hk
    simp only [inAt, List.getD_eq_getElem?_getD, List.getElem?_eq_getElem hk, Option.getD_some, within_iff] at this
    exact this
theorem right2 {d : RecD} (hk : d.kind = 2) (h : rightB d = true) : (0 ≤ d.tick ∧ 0 ≤ d.round ∧ d.round ≤ 15) ∧ (0 ≤ d.lot ∧ d.lot ≤ 15) ∧ (∀ k, k < d.barred.length → (0 ≤ d.barred.getD k 0 ∧ d.barred.getD k 0 ≤ 7) ∧ (k = 0 ∨ d.barred.getD (k - 1) 0 < d.barred.getD k 0)) := by
  rw [rightB, if_neg (by omega), if_pos hk] at h
  simp only [Bool.and_eq_true, within_iff, base_iff, allTo_iff, riseAt, Bool.or_eq_true, decide_eq_true_eq] at h
  exact ⟨h.1.1, h.1.2, h.2⟩
theorem right3 {d : RecD} (hk : d.kind = 3) (h : rightB d = true) : (0 ≤ d.tick ∧ 0 ≤ d.round ∧ d.round ≤ 15) ∧ 0 ≤ d.carrier ∧ d.carrier ≤ 7 := by
  rw [rightB, if_neg (by omega), if_neg (by omega), if_pos hk] at h
  simpa only [Bool.and_eq_true, within_iff, base_iff] using h
theorem right4 {d : RecD} (hk : d.kind = 4) (h : rightB d = true) : ((0 ≤ d.tick ∧ 0 ≤ d.round ∧ d.round ≤ 15) ∧ 0 ≤ d.carrier ∧ d.carrier ≤ 7) ∧ d.bid ≤ 4294967296 := by
  rw [rightB, if_neg (by omega), if_neg (by omega), if_neg (by omega), if_pos hk] at h
  simpa only [Bool.and_eq_true, within_iff, base_iff, decide_eq_true_eq] using h
theorem right5 {d : RecD} (hk : d.kind = 5) (h : rightB d = true) : (0 ≤ d.tick ∧ 0 ≤ d.round ∧ d.round ≤ 15) ∧ ((d.state = 3 ∧ d.winner = -1 ∧ d.price = 0) ∨ ((d.state = 2 ∨ d.state = 4) ∧ 0 ≤ d.winner ∧ d.winner ≤ 7 ∧ d.price ≤ 16777216)) := by
  rw [rightB, if_neg (by omega), if_neg (by omega), if_neg (by omega), if_neg (by omega), if_pos hk] at h
  simp only [Bool.and_eq_true, base_iff] at h
  refine ⟨h.1, ?_⟩
  have h2 := h.2
  unfold toldB at h2
  by_cases e : d.state = 3
  · rw [if_pos e] at h2
    simp only [Bool.and_eq_true, decide_eq_true_eq] at h2
    exact .inl ⟨e, h2⟩
  · rw [if_neg e] at h2
    simp only [Bool.and_eq_true, Bool.or_eq_true, decide_eq_true_eq, within_iff] at h2
    exact .inr ⟨h2.1.1, h2.1.2.1, h2.1.2.2, h2.2⟩
theorem right6 {d : RecD} (hk : d.kind = 6) (h : rightB d = true) : (0 ≤ d.tick ∧ 0 ≤ d.round ∧ d.round ≤ 15) ∧ d.round = 0 := by
  rw [rightB, if_neg (by omega), if_neg (by omega), if_neg (by omega), if_neg (by omega), if_neg (by omega), if_pos hk] at h
  simpa only [Bool.and_eq_true, base_iff, decide_eq_true_eq] using h
theorem rise_len (l : List Int) (h : ∀ k, k < l.length → (0 ≤ l.getD k 0 ∧ l.getD k 0 ≤ 7) ∧ (k = 0 ∨ l.getD (k - 1) 0 < l.getD k 0)) : l.length ≤ 8 := by
  have up : ∀ k, k < l.length → (k : Int) ≤ l.getD k 0 := by
    intro k
    induction k with
    | zero => intro hk; exact (h 0 hk).1.1
    | succ k ih =>
      intro hk
      have h1 := ih (by omega)
      rcases (h (k + 1) hk).2 with h2 | h2
      · omega
      · rw [Nat.add_sub_cancel] at h2
        omega
  rcases Nat.lt_or_ge 8 l.length with h8 | h8
  · have h1 := up 8 h8
    have h2 := (h 8 h8).1.2
    omega
  · exact h8
theorem rise_mem (l : List Int) (h : ∀ k, k < l.length → (0 ≤ l.getD k 0 ∧ l.getD k 0 ≤ 7) ∧ (k = 0 ∨ l.getD (k - 1) 0 < l.getD k 0)) : ∀ x ∈ l, 0 ≤ x ∧ x ≤ 7 := by
  intro x hx
  obtain ⟨k, hk, rfl⟩ := List.mem_iff_getElem.1 hx
  have := (h k hk).1
  rw [List.getD_eq_getElem?_getD, List.getElem?_eq_getElem hk] at this
  exact this
theorem rowIL_bs (l : List Int) (hn : l.length ≤ 255) (h : ∀ x ∈ l, 0 ≤ x ∧ x ≤ 7) : Bs (rowIL l) := Bs.cons (by omega) fun x hx => by have := h x hx; omega
theorem bytes_bs {d : RecD} (hm : mayB d = true) (ho : d.ok) : Bs (bytesL d) ∧ (bytesL d).length ≤ 151 ∧ 0 < (bytesL d).length := by
  obtain ⟨hr, _⟩ := mayB_and hm
  have hk := may_kind hm
  have nil := Bs.nil
  by_cases e1 : d.kind = 1
  · obtain ⟨h1, h2, h3, h4, h5, h6, h7, h8, _⟩ := right1 e1 hr
    rw [bytesL, if_pos e1]
    refine ⟨((Bs.cons (by omega) (Bs.cons (by omega) (Bs.cons (by omega) (Bs.cons (by omega) (Bs.cons (by omega) nil))))).append (Bs.cons (by omega) (flatL_bs _ fun x hx => by have := h7 x hx; omega))).append (rowIL_bs _ (by omega) h8), ?_, ?_⟩
    · simp only [rowLL, rowIL, List.length_append, List.length_cons, List.length_nil, flatL_length]; omega
    · simp
  rw [bytesL, if_neg e1]
  by_cases e2 : d.kind = 2
  · obtain ⟨h1, h2, h3⟩ := right2 e2 hr
    have hl := rise_len _ h3
    rw [if_pos e2]
    refine ⟨((Bs.cons (by omega) (Bs.cons (by omega) (Bs.cons (by omega) nil))).append (be_bs _ _)).append (rowIL_bs _ (by omega) (rise_mem _ h3)), ?_, ?_⟩
    · simp only [rowIL, List.length_append, List.length_cons, List.length_nil, be_length]; omega
    · simp
  rw [if_neg e2]
  by_cases e3 : d.kind = 3
  · obtain ⟨h1, h2, h3⟩ := right3 e3 hr
    rw [if_pos e3]
    refine ⟨((Bs.cons (by omega) (Bs.cons (by omega) (Bs.cons (by omega) nil))).append ho.dig).append (be_bs _ _), ?_, ?_⟩
    · simp only [List.length_append, List.length_cons, List.length_nil, be_length, ho.len]; omega
    · simp
  rw [if_neg e3]
  by_cases e4 : d.kind = 4
  · obtain ⟨⟨h1, h2⟩, h3⟩ := right4 e4 hr
    rw [if_pos e4]
    refine ⟨(((Bs.cons (by omega) (Bs.cons (by omega) (Bs.cons (by omega) nil))).append (be_bs _ _)).append (be_bs _ _)).append (be_bs _ _), ?_, ?_⟩
    · simp only [List.length_append, List.length_cons, List.length_nil, be_length]; omega
    · simp
  rw [if_neg e4]
  by_cases e5 : d.kind = 5
  · obtain ⟨h1, h2⟩ := right5 e5 hr
    rw [if_pos e5]
    refine ⟨((Bs.cons (by omega) (Bs.cons (by omega) (Bs.cons (by omega) (Bs.cons (by omega) nil)))).append (be_bs _ _)).append (be_bs _ _), ?_, ?_⟩
    · simp only [List.length_append, List.length_cons, List.length_nil, be_length]; omega
    · simp
  rw [if_neg e5]
  refine ⟨(Bs.cons (by omega) nil).append (be_bs _ _), ?_, ?_⟩
  · simp only [List.length_append, List.length_cons, List.length_nil, be_length]; omega
  · simp
end Go.Proofs.YtkpmcjfolncmmaaGreatDoor
namespace Go.Proofs.YtkpmcjfolncmmaaGreatDoor
open Go.RowKit
theorem eight (x : Int) (h : 0 ≤ x ∧ x ≤ 18446744073709551615) : x < 256 ^ 8 := by
  simp
  omega
end Go.Proofs.YtkpmcjfolncmmaaGreatDoor
namespace Go.Proofs.YtkpmcjfolncmmaaGreatDoor
open Go.RowKit
theorem rwithin_any (x lo hi : Int) (w : World) : Calls Tryz.prog 34 #[.int .i64 x, .int .i64 lo, .int .i64 hi] w fun e w' => e = .returned (.bool (withinB x lo hi)) ∧ w' = w := by
  go_enter Tryz.func34, Tryz.ntmps34
  unfold withinB
  by_cases h1 : lo ≤ x
  · by_cases h2 : x ≤ hi
    · have e1 : decide (lo ≤ x) = true := by simpa using h1
      have e2 : decide (x ≤ hi) = true := by simpa using h2
      go_wp2
      go_ret
      exact ⟨by simp [e1, e2], rfl⟩
    · have e1 : decide (lo ≤ x) = true := by simpa using h1
      have e2 : decide (x ≤ hi) = false := by simpa using h2
      go_wp2
      go_ret
      exact ⟨rfl, rfl⟩
  · have e1 : decide (lo ≤ x) = false := by simpa using h1
    go_wp2
    go_ret
    exact ⟨rfl, rfl⟩
set_option maxHeartbeats 2000000 in
theorem routcome_any (s x p : Int) (w : World) : Calls Tryz.prog 49 #[.agg #[.int .i64 s, .int .i64 x, .int .u64 p]] w fun e w' => e = .returned (.bool (toldB s x p)) ∧ Below w.heap.size w w' := by
  have hb : Below w.heap.size w (w.alloc (.cells #[.int .i64 s, .int .i64 x, .int .u64 p] 35)) := new_alloc _ _
  have HB := aside hb
  clear hb
  go_enter Tryz.func49, Tryz.ntmps49
  by_cases h3 : s = 3
  · subst h3
    by_cases h1 : x = -1
    · subst h1
      by_cases h2 : p = 0
      · subst h2
        go_wp2
        go_ret
        exact ⟨rfl, HB.out⟩
      · have e2 : (p == 0) = false := by simpa using h2
        have HR : Aside (toldB 3 (-1) p = false) := by simp [Aside, toldB, h2]
        go_wp2
        go_ret
        exact ⟨by rw [HR.out]; rfl, HB.out⟩
    · have e1 : (x == -1) = false := by simpa using h1
      have HR : Aside (toldB 3 x p = false) := by simp [Aside, toldB, h1]
      go_wp2
      go_ret
      exact ⟨by rw [HR.out]; rfl, HB.out⟩
  · have e3 : (s == 3) = false := by simpa using h3
    by_cases h24 : s = 2 ∨ s = 4
    · have HR0 : toldB s x p = (withinB x 0 7 && decide (p ≤ 16777216)) := by
        rcases h24 with rfl | rfl <;> simp [toldB]
      have HR := aside HR0
      clear HR0 h3
      rcases h24 with rfl | rfl
      all_goals
        go_wp2_with fail
        refine (rwithin_any x 0 7 _).mono ?_
        rintro e w1 ⟨rfl, rfl⟩
        by_cases hw : withinB x 0 7 = true
        · by_cases hp : p ≤ 16777216
          · have HF := HR.out
            rw [hw, decide_eq_true hp] at HF
            have HF := aside HF
            have e4 : decide (p ≤ 16777216) = true := decide_eq_true hp
            clear hp
            go_wp2
            go_ret
            exact ⟨by rw [HF.out]; rfl, HB.out⟩
          · have HF := HR.out
            rw [hw, decide_eq_false hp] at HF
            have HF := aside HF
            have e4 : decide (p ≤ 16777216) = false := decide_eq_false hp
            clear hp
            go_wp2
            go_ret
            exact ⟨by rw [HF.out]; rfl, HB.out⟩
        · have hw' : withinB x 0 7 = false := by simpa using hw
          have HF := HR.out
          rw [hw'] at HF
          have HF := aside HF
          clear hw
          go_wp2
          go_ret
          exact ⟨by rw [HF.out]; rfl, HB.out⟩
    · have h2 : ¬ s = 2 := fun h => h24 (.inl h)
      have h4 : ¬ s = 4 := fun h => h24 (.inr h)
      have e2 : (s == 2) = false := by simpa using h2
      have e4 : (s == 4) = false := by simpa using h4
      have HR : Aside (toldB s x p = false) := by simp [Aside, toldB, h2, h3, h4]
      clear h24 h2 h3 h4
      go_wp2
      go_ret
      exact ⟨by rw [HR.out]; rfl, HB.out⟩
def sceneRB (d : RecD) : Bool := ((withinB d.carriers 1 8 && (withinB d.commit 1 64 && (withinB d.reveal 1 64 && (withinB d.scheme 0 1 && (decide ((d.lots.length : Int) ≤ 16) && decide ((d.owners.length : Int) ≤ 64)))))) && allTo (lotAt d.lots) d.lots.length) && allTo (inAt d.owners) d.owners.length
theorem sceneD_eq (d : RecD) : sceneD d = ((sceneRB d && decide (d.tick = 0)) && decide (d.round = 0)) := rfl
set_option maxHeartbeats 4000000 in
set_option maxRecDepth 100000 in
theorem rscene_any (rv : RecV) (d : RecD) (hrows : d.barred.length + d.lots.length + d.owners.length ≤ 1099511627776) (w : World) (h : RecAt w rv d) :
    Calls Tryz.prog 48 #[.agg (recCells rv)] w fun e w' => e = .returned (.bool (sceneRB d)) ∧ Below w.heap.size w w' := by
  obtain ⟨b, l, o, rfl, hb, hl, hw⟩ := h
  obtain ⟨L, hL⟩ : ∃ x, x = w.heap.size := ⟨_, rfl⟩
  obtain ⟨w0, hw0⟩ : ∃ z, z = w.alloc (.cells (recCells (d.toV b l o)) 38) := ⟨_, rfl⟩
  have HN0 : Aside (Below w.heap.size w w0) := by rw [hw0]; exact new_alloc _ _
  have HR0 : Aside (RecIn w0 L (d.toV b l o)) := by rw [hw0, hL]; exact RecIn.box _ _
  have HRL : Aside (RowL w0 l d.lots) := hl.on HN0.out
  have HRW : Aside (RowI w0 o d.owners) := hw.on HN0.out
  have HLN : Aside (d.lots.length ≤ 1099511627776 ∧ d.owners.length ≤ 1099511627776) := ⟨by omega, by omega⟩
  obtain ⟨al, cl, rfl, _, _⟩ := hl
  obtain ⟨ao, co, rfl, _, _⟩ := hw
  clear hb hrows
  obtain ⟨S, hS⟩ : ∃ S : Bool, S = sceneRB d := ⟨_, rfl⟩
  have HSB := aside hS
  rw [← hS]
  clear hS
  go_enter Tryz.func48, Tryz.ntmps48
  go_upto_region 1 with fail
  rw [← hw0, ← hL]
  clear hw0 hL
  obtain ⟨nl, hnl⟩ : ∃ n, n = d.lots.length := ⟨_, rfl⟩
  obtain ⟨no, hno⟩ : ∃ n, n = d.owners.length := ⟨_, rfl⟩
  have hln := HLN.out
  rw [← hnl, ← hno] at hln
  have c43 : w0.cell? ⟨L, 43, none⟩ = some (.int .i64 d.carriers) := HR0.out.carriers
  have c44 : w0.cell? ⟨L, 44, none⟩ = some (.int .i64 d.commit) := HR0.out.commit
  have c45 : w0.cell? ⟨L, 45, none⟩ = some (.int .i64 d.reveal) := HR0.out.reveal
  have c46 : w0.cell? ⟨L, 46, none⟩ = some (.int .i64 d.scheme) := HR0.out.scheme
  have c47 : w0.cell? ⟨L, 47, none⟩ = some (.slice al nl cl) := by rw [hnl]; exact HR0.out.lots
  have c48 : w0.cell? ⟨L, 48, none⟩ = some (.slice ao no co) := by rw [hno]; exact HR0.out.owners
  have HNL := aside hnl
  have HNO := aside hno
  clear hnl hno
  go_wp2_with fail
  refine (rwithin_any d.carriers 1 8 _).mono ?_
  rintro e wq ⟨rfl, hwq⟩
  rw [hwq]
  clear hwq wq
  obtain ⟨B0, hB0⟩ : ∃ B : Bool, B = withinB d.carriers 1 8 := ⟨_, rfl⟩
  rw [← hB0]
  cases B0 with
  | false =>
    have HF : Aside (S = false) := by rw [Aside, HSB.out, sceneRB, ← hB0]; simp
    clear hB0
    go_wp2_with fail
    go_ret
    exact ⟨by rw [HF.out]; rfl, HN0.out⟩
  | true =>
    have HB0 : Aside (withinB d.carriers 1 8 = true) := hB0.symm
    clear hB0
    go_wp2_with fail
    refine (rwithin_any d.commit 1 64 _).mono ?_
    rintro e wq ⟨rfl, hwq⟩
    rw [hwq]
    clear hwq wq
    obtain ⟨B1, hB1⟩ : ∃ B : Bool, B = withinB d.commit 1 64 := ⟨_, rfl⟩
    rw [← hB1]
    cases B1 with
    | false =>
      have HF : Aside (S = false) := by rw [Aside, HSB.out, sceneRB, ← hB1]; simp
      clear hB1
      go_wp2_with fail
      go_ret
      exact ⟨by rw [HF.out]; rfl, HN0.out⟩
    | true =>
      have HB1 : Aside (withinB d.commit 1 64 = true) := hB1.symm
      clear hB1
      go_wp2_with fail
      refine (rwithin_any d.reveal 1 64 _).mono ?_
      rintro e wq ⟨rfl, hwq⟩
      rw [hwq]
      clear hwq wq
      obtain ⟨B2, hB2⟩ : ∃ B : Bool, B = withinB d.reveal 1 64 := ⟨_, rfl⟩
      rw [← hB2]
      cases B2 with
      | false =>
        have HF : Aside (S = false) := by rw [Aside, HSB.out, sceneRB, ← hB2]; simp
        clear hB2
        go_wp2_with fail
        go_ret
        exact ⟨by rw [HF.out]; rfl, HN0.out⟩
      | true =>
        have HB2 : Aside (withinB d.reveal 1 64 = true) := hB2.symm
        clear hB2
        go_wp2_with fail
        refine (rwithin_any d.scheme 0 1 _).mono ?_
        rintro e wq ⟨rfl, hwq⟩
        rw [hwq]
        clear hwq wq
        obtain ⟨B3, hB3⟩ : ∃ B : Bool, B = withinB d.scheme 0 1 := ⟨_, rfl⟩
        rw [← hB3]
        cases B3 with
        | false =>
          have HF : Aside (S = false) := by rw [Aside, HSB.out, sceneRB, ← hB3]; simp
          clear hB3
          go_wp2_with fail
          go_ret
          exact ⟨by rw [HF.out]; rfl, HN0.out⟩
        | true =>
          have HB3 : Aside (withinB d.scheme 0 1 = true) := hB3.symm
          clear hB3
          by_cases hl16 : nl ≤ 16
          case neg =>
            have HF : Aside (S = false) := by rw [Aside, HSB.out, sceneRB, decide_eq_false (p := (d.lots.length : Int) ≤ 16) (by have := HNL.out; omega)]; simp
            have e16 : (16 : Int) < nl := by omega
            go_wp2_with fail
            go_ret
            exact ⟨by rw [HF.out]; rfl, HN0.out⟩
          have e16 : ¬ (16 : Int) < nl := by omega
          by_cases ho64 : no ≤ 64
          case neg =>
            have HF : Aside (S = false) := by rw [Aside, HSB.out, sceneRB, decide_eq_false (p := (d.owners.length : Int) ≤ 64) (by have := HNO.out; omega)]; simp
            have e64 : (64 : Int) < no := by omega
            go_wp2_with fail
            go_ret
            exact ⟨by rw [HF.out]; rfl, HN0.out⟩
          have e64 : ¬ (64 : Int) < no := by omega
          have HS2 : Aside (S = (allTo (lotAt d.lots) nl && allTo (inAt d.owners) no)) := by
            rw [Aside, HSB.out, sceneRB, HB0.out, HB1.out, HB2.out, HB3.out, decide_eq_true (p := (d.lots.length : Int) ≤ 16) (by have := HNL.out; omega), decide_eq_true (p := (d.owners.length : Int) ≤ 64) (by have := HNO.out; omega), ← HNL.out, ← HNO.out]; rfl
          have H0 : Aside (allTo (lotAt d.lots) 0 = true) := rfl
          go_wp2_with fail
          clear hl16 ho64 e16 e64 c43 c44 c45 c46 hln
          go_loopg [3] nl (fun gk v3 wr => ∃ k : Nat, k ≤ nl ∧ v3 = .int .i64 k ∧ nl - k ≤ gk ∧ Aside (allTo (lotAt d.lots) k = true) ∧ wr = w0)
          case atStart => exact ⟨0, by omega, rfl, by omega, H0, rfl⟩
          case round =>
            clear H0
            obtain ⟨k, hk, rfl, hgk, HA, hwr⟩ := hrel
            rw [hwr]
            clear hwr
            have hnl40 : nl ≤ 1099511627776 := by have := HLN.out; have := HNL.out; omega
            by_cases hlt : k < nl
            · have hki : (k : Int) < nl := by omega
              obtain ⟨a', cap', e, _, hj0⟩ := HRL.out
              obtain ⟨lb, lo, ea, hlb, hj⟩ := hj0 (by have := HNL.out; omega)
              obtain ⟨ea2, _, ec2⟩ := Value.slice.inj e
              clear hj0
              subst ec2
              subst ea2
              subst ea
              have hjk := hj k (by rw [← HNL.out]; exact hlt)
              obtain ⟨x, hxk⟩ : ∃ x, x = d.lots.getD k (0, 0) := ⟨_, rfl⟩
              rw [← hxk] at hjk
              obtain ⟨x, y⟩ := x
              have HXK := aside hxk
              obtain ⟨d0, d1⟩ := hjk
              clear hj hxk e
              go_wp2_with fail
              refine (rwithin_any x 0 63 _).mono ?_
              rintro e wq ⟨rfl, hwq⟩
              rw [hwq]
              clear hwq wq
              obtain ⟨B1, hB1⟩ : ∃ B : Bool, B = withinB x 0 63 := ⟨_, rfl⟩
              rw [← hB1]
              have HBA := aside hB1
              clear hB1
              cases B1 with
              | false =>
                have HF : Aside (S = false) := by
                  have := allTo_no (lotAt d.lots) k nl hlt (by rw [lotAt, ← HXK.out, lotB, ← HBA.out]; rfl)
                  rw [Aside, HS2.out, this]; rfl
                go_wp2_with fail
                go_ret
                exact ⟨by rw [HF.out]; rfl, HN0.out⟩
              | true =>
                go_wp2_with fail
                refine (rwithin_any y 0 16777216 _).mono ?_
                rintro e wq ⟨rfl, hwq⟩
                rw [hwq]
                clear hwq wq
                obtain ⟨B2, hB2⟩ : ∃ B : Bool, B = withinB y 0 16777216 := ⟨_, rfl⟩
                rw [← hB2]
                have HBB := aside hB2
                clear hB2
                cases B2 with
                | false =>
                  have HF : Aside (S = false) := by
                    have := allTo_no (lotAt d.lots) k nl hlt (by rw [lotAt, ← HXK.out, lotB, ← HBB.out]; simp)
                    rw [Aside, HS2.out, this]; rfl
                  go_wp2_with fail
                  go_ret
                  exact ⟨by rw [HF.out]; rfl, HN0.out⟩
                | true =>
                  have HA2 : Aside (allTo (lotAt d.lots) (k + 1) = true) := by
                    rw [Aside, allTo, HA.out, lotAt, ← HXK.out, lotB, ← HBA.out, ← HBB.out]; rfl
                  go_wp2_with fail
                  go_roundg (nl - (k + 1))
                  case measure => omega
                  case rel => exact ⟨k + 1, by omega, rfl, by omega, HA2, rfl⟩
            · have hki : ¬ (k : Int) < nl := by omega
              have hkn : k = nl := by omega
              have HS3 : Aside (S = allTo (inAt d.owners) no) := by rw [Aside, HS2.out, ← hkn, HA.out]; rfl
              have H0 : Aside (allTo (inAt d.owners) 0 = true) := rfl
              have hno40 : no ≤ 1099511627776 := by have := HLN.out; have := HNO.out; omega
              clear hkn hlt HA hgk
              go_wp2_with fail
              go_loopg [4] no (fun gk v4 wr => ∃ k : Nat, k ≤ no ∧ v4 = .int .i64 k ∧ no - k ≤ gk ∧ Aside (allTo (inAt d.owners) k = true) ∧ wr = w0)
              case atStart => exact ⟨0, by omega, rfl, by omega, H0, rfl⟩
              case round =>
                clear H0
                obtain ⟨j, hj, rfl, hgj, HA, hwr⟩ := hrel
                rw [hwr]
                clear hwr
                by_cases hlt : j < no
                · have hji : (j : Int) < no := by omega
                  obtain ⟨a', cap', e, _, hj0⟩ := HRW.out
                  obtain ⟨lb, lo, ea, hlb, hjx⟩ := hj0 (by have := HNO.out; omega)
                  obtain ⟨ea2, _, ec2⟩ := Value.slice.inj e
                  clear hj0
                  subst ec2
                  subst ea2
                  subst ea
                  have d0 := hjx j (by rw [← HNO.out]; exact hlt)
                  obtain ⟨x, hxk⟩ : ∃ x, x = d.owners.getD j 0 := ⟨_, rfl⟩
                  rw [← hxk] at d0
                  have HXK := aside hxk
                  clear hjx hxk e
                  go_wp2_with fail
                  refine (rwithin_any x 0 7 _).mono ?_
                  rintro e wq ⟨rfl, hwq⟩
                  rw [hwq]
                  clear hwq wq
                  obtain ⟨B1, hB1⟩ : ∃ B : Bool, B = withinB x 0 7 := ⟨_, rfl⟩
                  rw [← hB1]
                  have HBA := aside hB1
                  clear hB1
                  cases B1 with
                  | false =>
                    have HF : Aside (S = false) := by
                      have := allTo_no (inAt d.owners) j no hlt (by rw [inAt, ← HXK.out, ← HBA.out])
                      rw [Aside, HS3.out, this]
                    go_wp2_with fail
                    go_ret
                    exact ⟨by rw [HF.out]; rfl, HN0.out⟩
                  | true =>
                    have HA2 : Aside (allTo (inAt d.owners) (j + 1) = true) := by
                      rw [Aside, allTo, HA.out, inAt, ← HXK.out, ← HBA.out]; rfl
                    go_wp2_with fail
                    go_roundg (no - (j + 1))
                    case measure => omega
                    case rel => exact ⟨j + 1, by omega, rfl, by omega, HA2, rfl⟩
                · have hji : ¬ (j : Int) < no := by omega
                  have hjn : j = no := by omega
                  have HF : Aside (S = true) := by rw [Aside, HS3.out, ← hjn]; exact HA.out
                  clear hjn hlt HA hgj
                  go_wp2_with fail
                  go_ret
                  exact ⟨by rw [HF.out]; rfl, HN0.out⟩
end Go.Proofs.YtkpmcjfolncmmaaGreatDoor
namespace Go.Proofs.YtkpmcjfolncmmaaGreatDoor
open Go.RowKit
theorem getV_u8 (t : ByteArray) (p : Int) : 0 ≤ getV t p 1 ∧ getV t p 1 ≤ 255 := by
  have := getV_bound t p 1 (by omega)
  simp at this
  omega
theorem getV_u64 (t : ByteArray) (p : Int) : 0 ≤ getV t p 8 ∧ getV t p 8 ≤ 18446744073709551615 := by
  have := getV_bound t p 8 (by omega)
  simp at this
  omega
theorem wrap64_in' (x : Int) : -9223372036854775808 ≤ wrap64 x ∧ wrap64 x ≤ 9223372036854775807 := by unfold wrap64; omega
theorem cntR_le (t : ByteArray) (p : Int) : cntR t p ≤ 255 := by have := getV_u8 t p; unfold cntR; omega
theorem rep_bs : Bs (List.replicate 32 0) := fun x hx => by rw [(List.mem_replicate.1 hx).2]; omega
theorem kind_cases {k : Int} (hk : 1 ≤ k ∧ k ≤ 6) : k = 1 ∨ k = 2 ∨ k = 3 ∨ k = 4 ∨ k = 5 ∨ k = 6 := by omega
theorem kindR_ok {k : Int} (hk : 1 ≤ k ∧ k ≤ 6) (t : ByteArray) : (kindR k t).ok := by
  have u8 := getV_u8 t
  have u64 := getV_u64 t
  have z := rep_bs
  have zl : (List.replicate 32 (0 : Int)).length = 32 := List.length_replicate
  have small : ∀ p, -9223372036854775808 ≤ getV t p 1 ∧ getV t p 1 ≤ 9223372036854775807 := fun p => by have := u8 p; omega
  have o0 : (-9223372036854775808 : Int) ≤ 0 ∧ (0 : Int) ≤ 9223372036854775807 := by omega
  have p0 : (0 : Int) ≤ 0 ∧ (0 : Int) ≤ 18446744073709551615 := by omega
  have kr : ∀ n : Int, 1 ≤ n ∧ n ≤ 6 → (-9223372036854775808 ≤ n ∧ n ≤ 9223372036854775807) := fun n h => by omega
  have r0 : (0 : Nat) + 0 + 0 ≤ 1099511627776 := by decide
  rcases kind_cases hk with rfl | rfl | rfl | rfl | rfl | rfl
  · exact ⟨zl, z, o0, p0, p0, p0, kr 1 hk, o0, o0, small 1, small 2, small 3, small 4, by
      show 0 + (lotsTo t 5 (cntR t 5)).length + (intsTo t (sceneP t) (cntR t (sceneP t))).length ≤ _
      have := cntR_le t 5
      have := cntR_le t (sceneP t)
      rw [lotsTo_length, intsTo_length]; omega⟩
  · exact ⟨zl, z, wrap64_in' _, p0, p0, p0, kr 2 hk, small 2, o0, o0, o0, o0, o0, by
      show (intsTo t 11 (cntR t 11)).length + 0 + 0 ≤ _
      have := cntR_le t 11
      rw [intsTo_length]; omega⟩
  · refine ⟨by show (digTo t 32).length = 32; simp [digTo], fun x hx => ?_, wrap64_in' _, p0, p0, p0, kr 3 hk, o0, small 2, o0, o0, o0, o0, r0⟩
    obtain ⟨i, _, rfl⟩ := List.mem_map.1 hx
    exact u8 _
  · exact ⟨zl, z, wrap64_in' _, u64 3, u64 11, p0, kr 4 hk, o0, small 2, o0, o0, o0, o0, r0⟩
  · exact ⟨zl, z, wrap64_in' _, p0, p0, u64 4, kr 5 hk, o0, o0, o0, o0, o0, o0, r0⟩
  · exact ⟨zl, z, wrap64_in' _, p0, p0, p0, kr 6 hk, o0, o0, o0, o0, o0, o0, r0⟩
theorem kindQ_le {k : Int} (hk : 1 ≤ k ∧ k ≤ 6) (t : ByteArray) (h : kindOk k t) : 0 ≤ kindQ k t ∧ kindQ k t ≤ t.size := by
  rcases kind_cases hk with rfl | rfl | rfl | rfl | rfl | rfl
  · have h' : sceneOk t := h
    show 0 ≤ sceneQ t ∧ sceneQ t ≤ t.size
    obtain ⟨_, _, h2, h3⟩ := h'
    unfold sceneQ
    unfold sceneP at h2 h3 ⊢
    omega
  · have h' : openOk t := h
    show 0 ≤ openQ t ∧ openQ t ≤ t.size
    obtain ⟨_, h2, h3⟩ := h'
    unfold openQ
    omega
  · have h' : 43 ≤ t.size := h
    show (0 : Int) ≤ 43 ∧ (43 : Int) ≤ t.size
    omega
  · have h' : 27 ≤ t.size := h
    show (0 : Int) ≤ 27 ∧ (27 : Int) ≤ t.size
    omega
  · have h' : 20 ≤ t.size := h
    show (0 : Int) ≤ 20 ∧ (20 : Int) ≤ t.size
    omega
  · have h' : 9 ≤ t.size := h
    show (0 : Int) ≤ 9 ∧ (9 : Int) ≤ t.size
    omega
theorem read_ok (t : ByteArray) : (readF t).1.ok := by
  have h0 : ({} : RecD).ok := ⟨List.length_replicate, rep_bs, by decide, by decide, by decide, by decide, by decide, by decide, by decide, by decide, by decide, by decide, by decide, by decide⟩
  unfold readF
  split
  · exact h0
  split
  · exact h0
  rename_i h2
  have hk := (within_iff _ _ _).1 (show withinB (getV t 0 1) 1 6 = true by simpa using h2)
  split
  · exact h0
  split
  · exact h0
  · exact kindR_ok hk t
end Go.Proofs.YtkpmcjfolncmmaaGreatDoor
