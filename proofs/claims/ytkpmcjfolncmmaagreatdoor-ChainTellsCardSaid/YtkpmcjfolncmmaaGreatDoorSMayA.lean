/- What chain.may's walk wants. -/
import Derived.Test.YtkpmcjfolncmmaaGreatDoorSMay2
import Derived.Test.YtkpmcjfolncmmaaGreatDoorSPln2
import Derived.Test.YtkpmcjfolncmmaaGreatDoorSRec2
set_option linter.all false
namespace Go.Proofs.YtkpmcjfolncmmaaGreatDoor
open Go.RowKit
def MayMid (d : RecD) (w : World) (L : Nat) (s : Value) (wx : World) : Prop :=
  ∃ rv', s = .bool (rightB d) ∧ RecIn wx L rv' ∧ RecAt wx rv' (restOf d) ∧ Below w.heap.size w wx
theorem rest1 {d : RecD} (h : d.kind = 1) : restOf d = { d with carriers := 0, commit := 0, reveal := 0, scheme := 0, lots := [], owners := [] } := by rw [restOf, if_pos h]
theorem rest2 {d : RecD} (h : d.kind = 2) : restOf d = { d with lot := 0, barred := [] } := by rw [restOf, if_neg (by omega), if_pos h]
theorem rest3 {d : RecD} (h : d.kind = 3) : restOf d = { d with carrier := 0, dig := List.replicate 32 0 } := by rw [restOf, if_neg (by omega), if_neg (by omega), if_pos h]
theorem rest4 {d : RecD} (h : d.kind = 4) : restOf d = { d with carrier := 0, bid := 0, nonce := 0 } := by rw [restOf, if_neg (by omega), if_neg (by omega), if_neg (by omega), if_pos h]
theorem rest5 {d : RecD} (h : d.kind = 5) : restOf d = { d with state := 0, winner := 0, price := 0 } := by rw [restOf, if_neg (by omega), if_neg (by omega), if_neg (by omega), if_neg (by omega), if_pos h]
theorem rest6 {d : RecD} (h : d.kind = 6) : restOf d = d := by rw [restOf, if_neg (by omega), if_neg (by omega), if_neg (by omega), if_neg (by omega), if_neg (by omega)]
theorem rightB1 {d : RecD} (h : d.kind = 1) : rightB d = sceneD d := by rw [rightB, if_pos h]
theorem rightB2 {d : RecD} (h : d.kind = 2) : rightB d = ((baseB d && withinB d.lot 0 15) && allTo (riseAt d.barred) d.barred.length) := by rw [rightB, if_neg (by omega), if_pos h]
theorem rightB3 {d : RecD} (h : d.kind = 3) : rightB d = (baseB d && withinB d.carrier 0 7) := by rw [rightB, if_neg (by omega), if_neg (by omega), if_pos h]
theorem rightB4 {d : RecD} (h : d.kind = 4) : rightB d = ((baseB d && withinB d.carrier 0 7) && decide (d.bid ≤ 4294967296)) := by rw [rightB, if_neg (by omega), if_neg (by omega), if_neg (by omega), if_pos h]
theorem rightB5 {d : RecD} (h : d.kind = 5) : rightB d = (baseB d && toldB d.state d.winner d.price) := by rw [rightB, if_neg (by omega), if_neg (by omega), if_neg (by omega), if_neg (by omega), if_pos h]
theorem rightB6 {d : RecD} (h : d.kind = 6) : rightB d = (baseB d && decide (d.round = 0)) := by rw [rightB, if_neg (by omega), if_neg (by omega), if_neg (by omega), if_neg (by omega), if_neg (by omega), if_pos h]
structure EOk (e : RecD) : Prop where
  len : e.dig.length = 32
  lot : -9223372036854775808 ≤ e.lot ∧ e.lot ≤ 9223372036854775807
  carrier : -9223372036854775808 ≤ e.carrier ∧ e.carrier ≤ 9223372036854775807
  carriers : -9223372036854775808 ≤ e.carriers ∧ e.carriers ≤ 9223372036854775807
  commit : -9223372036854775808 ≤ e.commit ∧ e.commit ≤ 9223372036854775807
  reveal : -9223372036854775808 ≤ e.reveal ∧ e.reveal ≤ 9223372036854775807
  scheme : -9223372036854775808 ≤ e.scheme ∧ e.scheme ≤ 9223372036854775807
  bid : 0 ≤ e.bid ∧ e.bid ≤ 18446744073709551615
  nonce : 0 ≤ e.nonce ∧ e.nonce ≤ 18446744073709551615
  rows : e.barred.length + e.lots.length + e.owners.length ≤ 1099511627776
theorem RecD.ok.rest {d : RecD} (h : d.ok) : EOk (restOf d) := by
  have hr := h.rows
  unfold restOf
  split
  · exact ⟨h.len, h.lot, h.carrier, by simp, by simp, by simp, by simp, h.bid, h.nonce, by simp; omega⟩
  split
  · exact ⟨h.len, by simp, h.carrier, h.carriers, h.commit, h.reveal, h.scheme, h.bid, h.nonce, by simp; omega⟩
  split
  · exact ⟨by simp, h.lot, by simp, h.carriers, h.commit, h.reveal, h.scheme, h.bid, h.nonce, h.rows⟩
  split
  · exact ⟨h.len, h.lot, by simp, h.carriers, h.commit, h.reveal, h.scheme, by simp, by simp, h.rows⟩
  split
  · exact ⟨h.len, h.lot, h.carrier, h.carriers, h.commit, h.reveal, h.scheme, h.bid, h.nonce, h.rows⟩
  · exact ⟨h.len, h.lot, h.carrier, h.carriers, h.commit, h.reveal, h.scheme, h.bid, h.nonce, h.rows⟩
def sixB (e : RecD) : Bool := decide (e.lot = 0 ∧ e.carrier = 0 ∧ e.carriers = 0 ∧ e.commit = 0 ∧ e.reveal = 0 ∧ e.scheme = 0)
def twoB (e : RecD) : Bool := decide (e.bid = 0 ∧ e.nonce = 0)
def zeroB (e : RecD) : Bool := sixB e && (twoB e && decide (e.barred.length + e.lots.length + e.owners.length = 0))
def digB (e : RecD) : Bool := decide (∀ j ∈ List.range 32, e.dig.getD j 0 = 0)
theorem EOk.six {e : RecD} (h : EOk e) : (bits .or .i64 (bits .or .i64 (bits .or .i64 (bits .or .i64 (bits .or .i64 e.lot e.carrier) e.carriers) e.commit) e.reveal) e.scheme == 0) = sixB e := by
  rw [Bool.eq_iff_iff, beq_iff_eq, sixB, decide_eq_true_eq]
  rw [or64 _ _ (or64_in _ _) h.scheme, or64 _ _ (or64_in _ _) h.reveal, or64 _ _ (or64_in _ _) h.commit, or64 _ _ (or64_in _ _) h.carriers, or64 _ _ h.lot h.carrier]
  simp only [and_assoc]
theorem EOk.two {e : RecD} (h : EOk e) : (bits .or .u64 e.bid e.nonce == 0) = twoB e := by
  rw [Bool.eq_iff_iff, beq_iff_eq, twoB, decide_eq_true_eq, oru64 _ _ h.bid h.nonce]
theorem range_get (f : Nat → Int) (j : Nat) (hj : j < 32) : ((List.range 32).map fun j => Value.int .u8 (f j)).toArray[j]? = some (.int .u8 (f j)) := by
  rw [List.getElem?_toArray, List.getElem?_map, List.getElem?_range hj]
  rfl
theorem digs_zero (l : List Int) (hl : l.length = 32) : (∀ j ∈ List.range 32, l.getD j 0 = 0) ↔ l = List.replicate 32 0 := by
  constructor
  · intro h
    apply List.ext_getElem (by simp [hl])
    intro i h1 h2
    have := h i (List.mem_range.2 (by omega))
    rw [List.getD_eq_getElem?_getD, List.getElem?_eq_getElem h1] at this
    rw [List.getElem_replicate]
    exact this
  · rintro rfl j _
    exact rep_getD 32 j
theorem empty_eq {e : RecD} (hl : e.dig.length = 32) : emptyD e = (zeroB e && (digB e && (e.state == 0 && (e.winner == 0 && e.price == 0)))) := by
  rw [Bool.eq_iff_iff]
  simp only [emptyD, zeroB, sixB, twoB, digB, Bool.and_eq_true, decide_eq_true_eq, beq_iff_eq, digs_zero _ hl]
  rcases e with ⟨kind, round, lot, carrier, tick, barred, dig, bid, nonce, state, winner, price, carriers, commit, reveal, scheme, lots, owners⟩
  simp only [RecD.mk.injEq, true_and, and_true]
  constructor
  · rintro ⟨h1, h2, h3, h4, h5, h6, h7, h8, h9, h10, h11, h12, h13, h14, h15⟩
    subst h3 h14 h15
    exact ⟨⟨⟨h1, h2, h10, h11, h12, h13⟩, ⟨h5, h6⟩, rfl⟩, h4, h7, h8, h9⟩
  · rintro ⟨⟨⟨h1, h2, h10, h11, h12, h13⟩, ⟨h5, h6⟩, hn⟩, h4, h7, h8, h9⟩
    have e1 : barred = [] := List.eq_nil_of_length_eq_zero (by omega)
    have e2 : lots = [] := List.eq_nil_of_length_eq_zero (by omega)
    have e3 : owners = [] := List.eq_nil_of_length_eq_zero (by omega)
    exact ⟨h1, h2, e1, h4, h5, h6, h7, h8, h9, h10, h11, h12, h13, e2, e3⟩
theorem Tryz.structOut : Tryz.prog.underlying 35 = some (.struct (Tryz.prog.fieldsOf 35)) := by kernel_rfl
theorem Tryz.heldOut : Tryz.prog.stoodInHeld 35 = false := by kernel_rfl
theorem eqOut (a b c x y z : Int) (w : World) : (binOp .eql 35 (.agg #[.int .i64 a, .int .i64 b, .int .u64 c]) (.agg #[.int .i64 x, .int .i64 y, .int .u64 z])).run Tryz.prog w = .ok (.bool (a == x && (b == y && c == z))) w := by
  have u3 := Tryz.underlying3
  have a3 := Tryz.isAgg3
  have z3 := Tryz.sizeOf3
  have u23 := Tryz.underlying24
  have a23 := Tryz.isAgg24
  have z23 := Tryz.sizeOf24
  rw [run_eql_struct, show (10000 : Nat) = 9999 + 1 from rfl, run_equalIn_agg w 9999 35 _ _ Tryz.structOut Tryz.heldOut]
  simp only [Program.fieldsOf, Tryz.underlying35]
  go_simp
  by_cases h1 : a = x <;> by_cases h2 : b = y <;> by_cases h3 : c = z <;> simp [h1, h2, h3]
end Go.Proofs.YtkpmcjfolncmmaaGreatDoor
namespace Go.Proofs.YtkpmcjfolncmmaaGreatDoor
open Go.RowKit
set_option maxHeartbeats 2000000 in
set_option maxRecDepth 100000 in
theorem may_k1 (rv : RecV) (d : RecD) (ho : d.ok) (hkd : d.kind = 1) (w : World) (h : RecAt w rv d) :
    Calls Tryz.prog 32 #[.agg (recCells rv)] w fun e w' => e = .returned (.bool (mayB d)) ∧ Below w.heap.size w w' := by
  obtain ⟨b, l, o, rfl, hb, hl, hw⟩ := h
  obtain ⟨L, hL⟩ : ∃ x, x = w.heap.size := ⟨_, rfl⟩
  obtain ⟨w0, hw0⟩ : ∃ z, z = w.alloc (.cells (recCells (d.toV b l o)) 38) := ⟨_, rfl⟩
  have HN0 : Aside (Below w.heap.size w w0) := by rw [hw0]; exact new_alloc _ _
  have HR0 : Aside (RecIn w0 L (d.toV b l o)) := by rw [hw0, hL]; exact RecIn.box _ _
  have HLw : Aside (w.heap.size ≤ L) := Nat.le_of_eq hL.symm
  have HRB : Aside (RowI w b d.barred) := hb
  have HRL : Aside (RowL w l d.lots) := hl
  have HRW : Aside (RowI w o d.owners) := hw
  have HO := aside ho
  have HKD := aside hkd
  clear hb hl hw ho hkd
  obtain ⟨RB, hRB⟩ : ∃ x : Bool, x = baseB d := ⟨_, rfl⟩
  have HBASE := aside hRB
  clear hRB
  go_enter Tryz.func32, Tryz.ntmps32
  go_upto_region 1 with fail
  rw [← hw0, ← hL]
  clear hw0 hL
  go_cut [3] (fun s3 wx => s3 = .bool RB ∧ wx = w0)
  case first =>
    have c4 : w0.cell? ⟨L, 4, none⟩ = some (.int .i64 d.tick) := HR0.out.tick
    have c1 : w0.cell? ⟨L, 1, none⟩ = some (.int .i64 d.round) := HR0.out.round
    by_cases h1 : 0 ≤ d.tick
    · go_wp2_with fail
      refine (within_any d.round 0 15 _).mono ?_
      rintro e w1 ⟨rfl, rfl⟩
      have HE : Aside (RB = withinB d.round 0 15) := by rw [Aside, HBASE.out, baseB, decide_eq_true h1, Bool.true_and]
      clear h1
      go_wp2_with fail
      go_meet
      case rel => exact ⟨by rw [HE.out], rfl⟩
    · have HE : Aside (RB = false) := by rw [Aside, HBASE.out, baseB, decide_eq_false h1, Bool.false_and]
      go_wp2_with fail
      go_meet
      case rel => exact ⟨by rw [HE.out], rfl⟩
  case rest =>
    obtain ⟨rfl, rfl⟩ := hcut
    have c0 : wc.cell? ⟨L, 0, none⟩ = some (.int .i64 1) := by rw [← HKD.out]; exact HR0.out.kind
    go_upto_block 0 with fail
    go_cut [3] (fun s3 wx => MayMid d w L s3 wx)
    case first =>
      clear c0
      go_wp2_with fail
      refine (scene_any L (d.toV b l o) d.lots d.owners (by have := HO.out.rows; omega) (by have := HO.out.rows; omega) wc HR0.out (HRL.out.on HN0.out) (HRW.out.on HN0.out)).mono ?_
      rintro e w1 ⟨rfl, hk1, hr1⟩
      have HB1 := new_of_keeps HN0.out hk1 HLw.out
      have HM : Aside (MayMid d w L (.bool (sceneB (d.toV b l o) d.lots d.owners)) w1) := by
        refine ⟨sceneBare (d.toV b l o), by rw [rightB1 HKD.out]; rfl, hr1, ?_, HB1⟩
        rw [rest1 HKD.out]
        exact ⟨b, .slice none 0 0, .slice none 0 0, rfl, HRB.out.on HB1, RowL.nil _, RowI.nil _⟩
      clear hk1 hr1 HB1
      go_wp2_with fail
      go_meet
      case rel => exact HM.out
    case rest =>
      clear c0 HR0 HN0 HRB HRL HRW
      obtain ⟨rv', rfl, hr', ha', hb'⟩ := hcut
      obtain ⟨e, he⟩ : ∃ e, e = restOf d := ⟨_, rfl⟩
      obtain ⟨R, hR⟩ : ∃ R : Bool, R = rightB d := ⟨_, rfl⟩
      have HFIN : Aside (mayB d = (R && emptyD e)) := by rw [Aside, mayB, hR, he]
      have HEO : Aside (EOk e) := by rw [he]; exact HO.out.rest
      rw [← he] at ha'
      rw [← hR]
      clear hR he
      obtain ⟨b', l', o', rfl, rb, rl, ro⟩ := ha'
      obtain ⟨ab, cb, rfl, hcb, _⟩ := rb
      obtain ⟨al, cl, rfl, hcl, _⟩ := rl
      obtain ⟨ao, co, rfl, hco, _⟩ := ro
      have HR2 := aside hr'
      have HB2 := aside hb'
      clear hr' hb' hcb hcl hco
      have c2 : wc.cell? ⟨L, 2, none⟩ = some (.int .i64 e.lot) := HR2.out.lot
      have c3 : wc.cell? ⟨L, 3, none⟩ = some (.int .i64 e.carrier) := HR2.out.carrier
      have c43 : wc.cell? ⟨L, 43, none⟩ = some (.int .i64 e.carriers) := HR2.out.carriers
      have c44 : wc.cell? ⟨L, 44, none⟩ = some (.int .i64 e.commit) := HR2.out.commit
      have c45 : wc.cell? ⟨L, 45, none⟩ = some (.int .i64 e.reveal) := HR2.out.reveal
      have c46 : wc.cell? ⟨L, 46, none⟩ = some (.int .i64 e.scheme) := HR2.out.scheme
      have c38 : wc.cell? ⟨L, 38, none⟩ = some (.int .u64 e.bid) := HR2.out.bid
      have c39 : wc.cell? ⟨L, 39, none⟩ = some (.int .u64 e.nonce) := HR2.out.nonce
      obtain ⟨nb, hnb⟩ : ∃ n, n = e.barred.length := ⟨_, rfl⟩
      obtain ⟨nl, hnl⟩ : ∃ n, n = e.lots.length := ⟨_, rfl⟩
      obtain ⟨no, hno⟩ : ∃ n, n = e.owners.length := ⟨_, rfl⟩
      have c5 : wc.cell? ⟨L, 5, none⟩ = some (.slice ab nb cb) := by rw [hnb]; exact HR2.out.barred
      have c47 : wc.cell? ⟨L, 47, none⟩ = some (.slice al nl cl) := by rw [hnl]; exact HR2.out.lots
      have c48 : wc.cell? ⟨L, 48, none⟩ = some (.slice ao no co) := by rw [hno]; exact HR2.out.owners
      have hrows : nb + nl + no ≤ 1099511627776 := by rw [hnb, hnl, hno]; exact HEO.out.rows
      obtain ⟨E, hE⟩ : ∃ E : Bool, E = zeroB e := ⟨_, rfl⟩
      have HE := aside hE
      have HEN : Aside (E = (sixB e && (twoB e && decide (nb + nl + no = 0)))) := by rw [Aside, hE, zeroB, hnb, hnl, hno]
      clear hE hnb hnl hno
      go_upto_region 21 with fail
      go_cut [5] (fun s5 wx => s5 = .bool E ∧ wx = wc)
      case first =>
        have h6 := HEO.out.six
        obtain ⟨B6, hB6⟩ : ∃ B : Bool, B = sixB e := ⟨_, rfl⟩
        obtain ⟨B2, hB2⟩ : ∃ B : Bool, B = twoB e := ⟨_, rfl⟩
        have h2 := HEO.out.two
        rw [← hB6] at h6
        rw [← hB2] at h2
        have HEN := HEN.out
        rw [← hB6, ← hB2] at HEN
        have HEN := aside HEN
        clear hB6 hB2
        cases B6 with
        | false =>
          have HQ : Aside (E = false) := by rw [Aside, HEN.out]; rfl
          go_wp2_with fail
          go_meet
          case rel => exact ⟨by rw [HQ.out], rfl⟩
        | true =>
          cases B2 with
          | false =>
            have HQ : Aside (E = false) := by rw [Aside, HEN.out]; rfl
            go_wp2_with fail
            go_meet
            case rel => exact ⟨by rw [HQ.out], rfl⟩
          | true =>
            by_cases hn : nb + nl + no = 0
            · have HQ : Aside (E = true) := by rw [Aside, HEN.out, decide_eq_true hn]; rfl
              obtain rfl : nb = 0 := by omega
              obtain rfl : nl = 0 := by omega
              obtain rfl : no = 0 := by omega
              clear hn
              go_wp2_with fail
              go_meet
              case rel => exact ⟨by rw [HQ.out], rfl⟩
            · have HQ : Aside (E = false) := by rw [Aside, HEN.out, decide_eq_false hn]; rfl
              have hb : (((nb : Int) + nl + no) == 0) = false := by simp; omega
              clear hn
              go_wp2_with fail
              go_meet
              case rel => exact ⟨by rw [HQ.out], rfl⟩
      case rest =>
        obtain ⟨rfl, rfl⟩ := hcut
        clear c2 c3 c43 c44 c45 c46 c38 c39 c5 c47 c48 hrows HEN
        have c40 : wc.cell? ⟨L, 40, none⟩ = some (.int .i64 e.state) := HR2.out.state
        have c41 : wc.cell? ⟨L, 41, none⟩ = some (.int .i64 e.winner) := HR2.out.winner
        have c42 : wc.cell? ⟨L, 42, none⟩ = some (.int .u64 e.price) := HR2.out.price
        obtain ⟨ds, hds⟩ : ∃ ds : Array Value, ((List.range 32).map fun j => Value.int .u8 (e.dig.getD j 0)).toArray = ds := ⟨_, rfl⟩
        have heq : ∀ W, (binOp .eql 33 (.agg ds) (.agg #[.int .u8 0, .int .u8 0, .int .u8 0, .int .u8 0, .int .u8 0, .int .u8 0, .int .u8 0, .int .u8 0, .int .u8 0, .int .u8 0, .int .u8 0, .int .u8 0, .int .u8 0, .int .u8 0, .int .u8 0, .int .u8 0, .int .u8 0, .int .u8 0, .int .u8 0, .int .u8 0, .int .u8 0, .int .u8 0, .int .u8 0, .int .u8 0, .int .u8 0, .int .u8 0, .int .u8 0, .int .u8 0, .int .u8 0, .int .u8 0, .int .u8 0, .int .u8 0])).run Tryz.prog W = .ok (.bool (digB e)) W := by
          intro W
          rw [← hds]
          exact eqDig _ _ (fun j => e.dig.getD j 0) (fun _ => 0) (range_get _) zeroD_get W
        have hrg : wc.rangeAt L 6 ((List.range 32).map fun j => Value.int .u8 (e.dig.getD j 0)) := HR2.out.digRange
        have HDS := aside hds
        have HRG := aside hrg
        clear hrg
        have heo := fun W => eqOut e.state e.winner e.price 0 0 0 W
        have HF : Aside (mayB d = (((R && E) && digB e) && (e.state == 0 && (e.winner == 0 && e.price == 0)))) := by
          rw [Aside, HFIN.out, HE.out, empty_eq HEO.out.len]
          simp only [Bool.and_assoc]
        obtain ⟨B, hB⟩ : ∃ B : Bool, B = digB e := ⟨_, rfl⟩
        obtain ⟨B5, hB5⟩ : ∃ B : Bool, B = (e.state == 0 && (e.winner == 0 && e.price == 0)) := ⟨_, rfl⟩
        rw [← hB] at heq
        have HF := HF.out
        rw [← hB, ← hB5] at HF
        have HF := aside HF
        simp only [← hB5] at heo
        clear hB hB5 hds HFIN HE
        cases R with
        | false =>
          have HQ : Aside (mayB d = false) := by rw [Aside, HF.out]; simp
          go_wp2_with fail
          go_ret
          exact ⟨by rw [HQ.out]; rfl, HB2.out⟩
        | true =>
          cases E with
          | false =>
            have HQ : Aside (mayB d = false) := by rw [Aside, HF.out]; simp
            go_wp2_with fail
            go_ret
            exact ⟨by rw [HQ.out]; rfl, HB2.out⟩
          | true =>
            cases B with
            | false =>
              have HQ : Aside (mayB d = false) := by rw [Aside, HF.out]; simp
              go_wp2_with (first | (refine wpList_load_midG (by rfl) _ _ rfl L 6 rfl _ _ HRG.out Tryz.underlying33 rfl (by kernel_rfl) ds HDS.out ?_) | fail)
              go_ret
              exact ⟨by rw [HQ.out]; rfl, HB2.out⟩
            | true =>
              have HQ : Aside (mayB d = B5) := by rw [Aside, HF.out]; simp
              go_wp2_with (first | (refine wpList_load_midG (by rfl) _ _ rfl L 6 rfl _ _ HRG.out Tryz.underlying33 rfl (by kernel_rfl) ds HDS.out ?_) | fail)
              go_ret
              exact ⟨by rw [HQ.out]; rfl, HB2.out⟩
end Go.Proofs.YtkpmcjfolncmmaaGreatDoor
namespace Go.Proofs.YtkpmcjfolncmmaaGreatDoor
open Go.RowKit
set_option maxHeartbeats 2000000 in
set_option maxRecDepth 100000 in
theorem may_k2 (rv : RecV) (d : RecD) (ho : d.ok) (hkd : d.kind = 2) (w : World) (h : RecAt w rv d) :
    Calls Tryz.prog 32 #[.agg (recCells rv)] w fun e w' => e = .returned (.bool (mayB d)) ∧ Below w.heap.size w w' := by
  obtain ⟨b, l, o, rfl, hb, hl, hw⟩ := h
  obtain ⟨L, hL⟩ : ∃ x, x = w.heap.size := ⟨_, rfl⟩
  obtain ⟨w0, hw0⟩ : ∃ z, z = w.alloc (.cells (recCells (d.toV b l o)) 38) := ⟨_, rfl⟩
  have HN0 : Aside (Below w.heap.size w w0) := by rw [hw0]; exact new_alloc _ _
  have HR0 : Aside (RecIn w0 L (d.toV b l o)) := by rw [hw0, hL]; exact RecIn.box _ _
  have HLw : Aside (w.heap.size ≤ L) := Nat.le_of_eq hL.symm
  have HRB : Aside (RowI w b d.barred) := hb
  have HRL : Aside (RowL w l d.lots) := hl
  have HRW : Aside (RowI w o d.owners) := hw
  have HO := aside ho
  have HKD := aside hkd
  clear hb hl hw ho hkd
  obtain ⟨RB, hRB⟩ : ∃ x : Bool, x = baseB d := ⟨_, rfl⟩
  have HBASE := aside hRB
  clear hRB
  go_enter Tryz.func32, Tryz.ntmps32
  go_upto_region 1 with fail
  rw [← hw0, ← hL]
  clear hw0 hL
  go_cut [3] (fun s3 wx => s3 = .bool RB ∧ wx = w0)
  case first =>
    have c4 : w0.cell? ⟨L, 4, none⟩ = some (.int .i64 d.tick) := HR0.out.tick
    have c1 : w0.cell? ⟨L, 1, none⟩ = some (.int .i64 d.round) := HR0.out.round
    by_cases h1 : 0 ≤ d.tick
    · go_wp2_with fail
      refine (within_any d.round 0 15 _).mono ?_
      rintro e w1 ⟨rfl, rfl⟩
      have HE : Aside (RB = withinB d.round 0 15) := by rw [Aside, HBASE.out, baseB, decide_eq_true h1, Bool.true_and]
      clear h1
      go_wp2_with fail
      go_meet
      case rel => exact ⟨by rw [HE.out], rfl⟩
    · have HE : Aside (RB = false) := by rw [Aside, HBASE.out, baseB, decide_eq_false h1, Bool.false_and]
      go_wp2_with fail
      go_meet
      case rel => exact ⟨by rw [HE.out], rfl⟩
  case rest =>
    obtain ⟨rfl, rfl⟩ := hcut
    have c0 : wc.cell? ⟨L, 0, none⟩ = some (.int .i64 2) := by rw [← HKD.out]; exact HR0.out.kind
    go_upto_block 0 with fail
    go_cut [3] (fun s3 wx => MayMid d w L s3 wx)
    case first =>
      clear c0
      have c5 : wc.cell? ⟨L, 5, none⟩ = some b := HR0.out.barred
      have c2 : wc.cell? ⟨L, 2, none⟩ = some (.int .i64 d.lot) := HR0.out.lot
      have f5 := HR0.out.free 5
      have f2 := HR0.out.free 2
      go_wp2_with fail
      refine (allRise_any L (d.toV b l o) b d.barred (by have := HO.out.rows; omega) wc (HRB.out.on HN0.out) HR0.out rfl).mono ?_
      rintro e w1 ⟨rfl, rfl⟩
      have HRF : Aside (RecIn _ L { d.toV b l o with lot := 0, barred := .slice none 0 0 }) := (HR0.out.setLot 0).setBarred (.slice none 0 0)
      have HBF : Aside (Below w.heap.size w _) := (HN0.out.setCell (p := ⟨L, 2, none⟩) HLw.out (.int .i64 0)).setCell (p := ⟨L, 5, none⟩) HLw.out (.slice none 0 0)
      obtain ⟨al, hal⟩ : ∃ x : Bool, x = allTo (riseAt d.barred) d.barred.length := ⟨_, rfl⟩
      rw [← hal]
      have HAL := aside hal
      clear hal
      have HM : ∀ s, s = .bool ((RB && withinB d.lot 0 15) && al) → Aside (MayMid d w L s _) := fun s hs => ⟨_, by rw [hs, rightB2 HKD.out, HBASE.out, HAL.out], HRF.out, by rw [rest2 HKD.out]; exact ⟨.slice none 0 0, l, o, rfl, RowI.nil _, HRL.out.on HBF.out, HRW.out.on HBF.out⟩, HBF.out⟩
      have HM := aside HM
      clear HRF HBF
      cases RB with
      | false =>
        go_wp2_with fail
        go_meet
        case rel => exact HM.out _ rfl
      | true =>
        go_wp2_with fail
        refine (within_any d.lot 0 15 _).mono ?_
        rintro e w1 ⟨rfl, rfl⟩
        obtain ⟨wl, hwl⟩ : ∃ x : Bool, x = withinB d.lot 0 15 := ⟨_, rfl⟩
        rw [← hwl] at HM ⊢
        clear hwl
        cases wl with
        | false =>
          go_wp2_with fail
          go_meet
          case rel => exact HM.out _ rfl
        | true =>
          go_wp2_with fail
          go_meet
          case rel => exact HM.out _ rfl
    case rest =>
      clear c0 HR0 HN0 HRB HRL HRW
      obtain ⟨rv', rfl, hr', ha', hb'⟩ := hcut
      obtain ⟨e, he⟩ : ∃ e, e = restOf d := ⟨_, rfl⟩
      obtain ⟨R, hR⟩ : ∃ R : Bool, R = rightB d := ⟨_, rfl⟩
      have HFIN : Aside (mayB d = (R && emptyD e)) := by rw [Aside, mayB, hR, he]
      have HEO : Aside (EOk e) := by rw [he]; exact HO.out.rest
      rw [← he] at ha'
      rw [← hR]
      clear hR he
      obtain ⟨b', l', o', rfl, rb, rl, ro⟩ := ha'
      obtain ⟨ab, cb, rfl, hcb, _⟩ := rb
      obtain ⟨al, cl, rfl, hcl, _⟩ := rl
      obtain ⟨ao, co, rfl, hco, _⟩ := ro
      have HR2 := aside hr'
      have HB2 := aside hb'
      clear hr' hb' hcb hcl hco
      have c2 : wc.cell? ⟨L, 2, none⟩ = some (.int .i64 e.lot) := HR2.out.lot
      have c3 : wc.cell? ⟨L, 3, none⟩ = some (.int .i64 e.carrier) := HR2.out.carrier
      have c43 : wc.cell? ⟨L, 43, none⟩ = some (.int .i64 e.carriers) := HR2.out.carriers
      have c44 : wc.cell? ⟨L, 44, none⟩ = some (.int .i64 e.commit) := HR2.out.commit
      have c45 : wc.cell? ⟨L, 45, none⟩ = some (.int .i64 e.reveal) := HR2.out.reveal
      have c46 : wc.cell? ⟨L, 46, none⟩ = some (.int .i64 e.scheme) := HR2.out.scheme
      have c38 : wc.cell? ⟨L, 38, none⟩ = some (.int .u64 e.bid) := HR2.out.bid
      have c39 : wc.cell? ⟨L, 39, none⟩ = some (.int .u64 e.nonce) := HR2.out.nonce
      obtain ⟨nb, hnb⟩ : ∃ n, n = e.barred.length := ⟨_, rfl⟩
      obtain ⟨nl, hnl⟩ : ∃ n, n = e.lots.length := ⟨_, rfl⟩
      obtain ⟨no, hno⟩ : ∃ n, n = e.owners.length := ⟨_, rfl⟩
      have c5 : wc.cell? ⟨L, 5, none⟩ = some (.slice ab nb cb) := by rw [hnb]; exact HR2.out.barred
      have c47 : wc.cell? ⟨L, 47, none⟩ = some (.slice al nl cl) := by rw [hnl]; exact HR2.out.lots
      have c48 : wc.cell? ⟨L, 48, none⟩ = some (.slice ao no co) := by rw [hno]; exact HR2.out.owners
      have hrows : nb + nl + no ≤ 1099511627776 := by rw [hnb, hnl, hno]; exact HEO.out.rows
      obtain ⟨E, hE⟩ : ∃ E : Bool, E = zeroB e := ⟨_, rfl⟩
      have HE := aside hE
      have HEN : Aside (E = (sixB e && (twoB e && decide (nb + nl + no = 0)))) := by rw [Aside, hE, zeroB, hnb, hnl, hno]
      clear hE hnb hnl hno
      go_upto_region 21 with fail
      go_cut [5] (fun s5 wx => s5 = .bool E ∧ wx = wc)
      case first =>
        have h6 := HEO.out.six
        obtain ⟨B6, hB6⟩ : ∃ B : Bool, B = sixB e := ⟨_, rfl⟩
        obtain ⟨B2, hB2⟩ : ∃ B : Bool, B = twoB e := ⟨_, rfl⟩
        have h2 := HEO.out.two
        rw [← hB6] at h6
        rw [← hB2] at h2
        have HEN := HEN.out
        rw [← hB6, ← hB2] at HEN
        have HEN := aside HEN
        clear hB6 hB2
        cases B6 with
        | false =>
          have HQ : Aside (E = false) := by rw [Aside, HEN.out]; rfl
          go_wp2_with fail
          go_meet
          case rel => exact ⟨by rw [HQ.out], rfl⟩
        | true =>
          cases B2 with
          | false =>
            have HQ : Aside (E = false) := by rw [Aside, HEN.out]; rfl
            go_wp2_with fail
            go_meet
            case rel => exact ⟨by rw [HQ.out], rfl⟩
          | true =>
            by_cases hn : nb + nl + no = 0
            · have HQ : Aside (E = true) := by rw [Aside, HEN.out, decide_eq_true hn]; rfl
              obtain rfl : nb = 0 := by omega
              obtain rfl : nl = 0 := by omega
              obtain rfl : no = 0 := by omega
              clear hn
              go_wp2_with fail
              go_meet
              case rel => exact ⟨by rw [HQ.out], rfl⟩
            · have HQ : Aside (E = false) := by rw [Aside, HEN.out, decide_eq_false hn]; rfl
              have hb : (((nb : Int) + nl + no) == 0) = false := by simp; omega
              clear hn
              go_wp2_with fail
              go_meet
              case rel => exact ⟨by rw [HQ.out], rfl⟩
      case rest =>
        obtain ⟨rfl, rfl⟩ := hcut
        clear c2 c3 c43 c44 c45 c46 c38 c39 c5 c47 c48 hrows HEN
        have c40 : wc.cell? ⟨L, 40, none⟩ = some (.int .i64 e.state) := HR2.out.state
        have c41 : wc.cell? ⟨L, 41, none⟩ = some (.int .i64 e.winner) := HR2.out.winner
        have c42 : wc.cell? ⟨L, 42, none⟩ = some (.int .u64 e.price) := HR2.out.price
        obtain ⟨ds, hds⟩ : ∃ ds : Array Value, ((List.range 32).map fun j => Value.int .u8 (e.dig.getD j 0)).toArray = ds := ⟨_, rfl⟩
        have heq : ∀ W, (binOp .eql 33 (.agg ds) (.agg #[.int .u8 0, .int .u8 0, .int .u8 0, .int .u8 0, .int .u8 0, .int .u8 0, .int .u8 0, .int .u8 0, .int .u8 0, .int .u8 0, .int .u8 0, .int .u8 0, .int .u8 0, .int .u8 0, .int .u8 0, .int .u8 0, .int .u8 0, .int .u8 0, .int .u8 0, .int .u8 0, .int .u8 0, .int .u8 0, .int .u8 0, .int .u8 0, .int .u8 0, .int .u8 0, .int .u8 0, .int .u8 0, .int .u8 0, .int .u8 0, .int .u8 0, .int .u8 0])).run Tryz.prog W = .ok (.bool (digB e)) W := by
          intro W
          rw [← hds]
          exact eqDig _ _ (fun j => e.dig.getD j 0) (fun _ => 0) (range_get _) zeroD_get W
        have hrg : wc.rangeAt L 6 ((List.range 32).map fun j => Value.int .u8 (e.dig.getD j 0)) := HR2.out.digRange
        have HDS := aside hds
        have HRG := aside hrg
        clear hrg
        have heo := fun W => eqOut e.state e.winner e.price 0 0 0 W
        have HF : Aside (mayB d = (((R && E) && digB e) && (e.state == 0 && (e.winner == 0 && e.price == 0)))) := by
          rw [Aside, HFIN.out, HE.out, empty_eq HEO.out.len]
          simp only [Bool.and_assoc]
        obtain ⟨B, hB⟩ : ∃ B : Bool, B = digB e := ⟨_, rfl⟩
        obtain ⟨B5, hB5⟩ : ∃ B : Bool, B = (e.state == 0 && (e.winner == 0 && e.price == 0)) := ⟨_, rfl⟩
        rw [← hB] at heq
        have HF := HF.out
        rw [← hB, ← hB5] at HF
        have HF := aside HF
        simp only [← hB5] at heo
        clear hB hB5 hds HFIN HE
        cases R with
        | false =>
          have HQ : Aside (mayB d = false) := by rw [Aside, HF.out]; simp
          go_wp2_with fail
          go_ret
          exact ⟨by rw [HQ.out]; rfl, HB2.out⟩
        | true =>
          cases E with
          | false =>
            have HQ : Aside (mayB d = false) := by rw [Aside, HF.out]; simp
            go_wp2_with fail
            go_ret
            exact ⟨by rw [HQ.out]; rfl, HB2.out⟩
          | true =>
            cases B with
            | false =>
              have HQ : Aside (mayB d = false) := by rw [Aside, HF.out]; simp
              go_wp2_with (first | (refine wpList_load_midG (by rfl) _ _ rfl L 6 rfl _ _ HRG.out Tryz.underlying33 rfl (by kernel_rfl) ds HDS.out ?_) | fail)
              go_ret
              exact ⟨by rw [HQ.out]; rfl, HB2.out⟩
            | true =>
              have HQ : Aside (mayB d = B5) := by rw [Aside, HF.out]; simp
              go_wp2_with (first | (refine wpList_load_midG (by rfl) _ _ rfl L 6 rfl _ _ HRG.out Tryz.underlying33 rfl (by kernel_rfl) ds HDS.out ?_) | fail)
              go_ret
              exact ⟨by rw [HQ.out]; rfl, HB2.out⟩
end Go.Proofs.YtkpmcjfolncmmaaGreatDoor
namespace Go.Proofs.YtkpmcjfolncmmaaGreatDoor
open Go.RowKit
set_option maxHeartbeats 2000000 in
set_option maxRecDepth 100000 in
theorem may_k3 (rv : RecV) (d : RecD) (ho : d.ok) (hkd : d.kind = 3) (w : World) (h : RecAt w rv d) :
    Calls Tryz.prog 32 #[.agg (recCells rv)] w fun e w' => e = .returned (.bool (mayB d)) ∧ Below w.heap.size w w' := by
  obtain ⟨b, l, o, rfl, hb, hl, hw⟩ := h
  obtain ⟨L, hL⟩ : ∃ x, x = w.heap.size := ⟨_, rfl⟩
  obtain ⟨w0, hw0⟩ : ∃ z, z = w.alloc (.cells (recCells (d.toV b l o)) 38) := ⟨_, rfl⟩
  have HN0 : Aside (Below w.heap.size w w0) := by rw [hw0]; exact new_alloc _ _
  have HR0 : Aside (RecIn w0 L (d.toV b l o)) := by rw [hw0, hL]; exact RecIn.box _ _
  have HLw : Aside (w.heap.size ≤ L) := Nat.le_of_eq hL.symm
  have HRB : Aside (RowI w b d.barred) := hb
  have HRL : Aside (RowL w l d.lots) := hl
  have HRW : Aside (RowI w o d.owners) := hw
  have HO := aside ho
  have HKD := aside hkd
  clear hb hl hw ho hkd
  obtain ⟨RB, hRB⟩ : ∃ x : Bool, x = baseB d := ⟨_, rfl⟩
  have HBASE := aside hRB
  clear hRB
  go_enter Tryz.func32, Tryz.ntmps32
  go_upto_region 1 with fail
  rw [← hw0, ← hL]
  clear hw0 hL
  go_cut [3] (fun s3 wx => s3 = .bool RB ∧ wx = w0)
  case first =>
    have c4 : w0.cell? ⟨L, 4, none⟩ = some (.int .i64 d.tick) := HR0.out.tick
    have c1 : w0.cell? ⟨L, 1, none⟩ = some (.int .i64 d.round) := HR0.out.round
    by_cases h1 : 0 ≤ d.tick
    · go_wp2_with fail
      refine (within_any d.round 0 15 _).mono ?_
      rintro e w1 ⟨rfl, rfl⟩
      have HE : Aside (RB = withinB d.round 0 15) := by rw [Aside, HBASE.out, baseB, decide_eq_true h1, Bool.true_and]
      clear h1
      go_wp2_with fail
      go_meet
      case rel => exact ⟨by rw [HE.out], rfl⟩
    · have HE : Aside (RB = false) := by rw [Aside, HBASE.out, baseB, decide_eq_false h1, Bool.false_and]
      go_wp2_with fail
      go_meet
      case rel => exact ⟨by rw [HE.out], rfl⟩
  case rest =>
    obtain ⟨rfl, rfl⟩ := hcut
    have c0 : wc.cell? ⟨L, 0, none⟩ = some (.int .i64 3) := by rw [← HKD.out]; exact HR0.out.kind
    go_upto_block 0 with fail
    go_cut [3] (fun s3 wx => MayMid d w L s3 wx)
    case first =>
      clear c0
      have c3 : wc.cell? ⟨L, 3, none⟩ = some (.int .i64 d.carrier) := HR0.out.carrier
      have f3 := HR0.out.free 3
      obtain ⟨wz, hst, hrz, hbz, _⟩ := store_zero (HR0.out.setCarrier 0)
      have HST := aside hst
      clear hst
      have HRF : Aside (RecIn wz L { d.toV b l o with carrier := 0, dig := fun _ => 0 }) := hrz
      have HBF : Aside (Below w.heap.size w wz) := hbz _ _ HLw.out (HN0.out.setCell (p := ⟨L, 3, none⟩) HLw.out (.int .i64 0))
      clear hrz hbz
      have HM : ∀ s, s = .bool (RB && withinB d.carrier 0 7) → Aside (MayMid d w L s wz) := by
        intro s hs
        refine ⟨_, by rw [hs, rightB3 HKD.out, HBASE.out], HRF.out, ?_, HBF.out⟩
        rw [rest3 HKD.out]
        refine ⟨b, l, o, ?_, HRB.out.on HBF.out, HRL.out.on HBF.out, HRW.out.on HBF.out⟩
        have e : (fun _ => 0 : Nat → Int) = fun k => (List.replicate 32 (0 : Int)).getD k 0 := funext fun j => (rep_getD 32 j).symm
        rw [e]
        rfl
      have HM := aside HM
      clear HRF HBF
      cases RB with
      | false =>
        go_wp2_with (first | (refine wpList_store_by rfl 33 _ _ rfl _ _ rfl rfl HST.out ?_) | fail)
        go_meet
        case rel => exact HM.out _ rfl
      | true =>
        go_wp2_with (first | (refine wpList_store_by rfl 33 _ _ rfl _ _ rfl rfl HST.out ?_) | fail)
        refine (within_any d.carrier 0 7 _).mono ?_
        rintro e w1 ⟨rfl, rfl⟩
        obtain ⟨wl, hwl⟩ : ∃ x : Bool, x = withinB d.carrier 0 7 := ⟨_, rfl⟩
        rw [← hwl] at HM ⊢
        clear hwl
        cases wl with
        | false =>
          go_wp2_with (first | (refine wpList_store_by rfl 33 _ _ rfl _ _ rfl rfl HST.out ?_) | fail)
          go_meet
          case rel => exact HM.out _ rfl
        | true =>
          go_wp2_with (first | (refine wpList_store_by rfl 33 _ _ rfl _ _ rfl rfl HST.out ?_) | fail)
          go_meet
          case rel => exact HM.out _ rfl
    case rest =>
      clear c0 HR0 HN0 HRB HRL HRW
      obtain ⟨rv', rfl, hr', ha', hb'⟩ := hcut
      obtain ⟨e, he⟩ : ∃ e, e = restOf d := ⟨_, rfl⟩
      obtain ⟨R, hR⟩ : ∃ R : Bool, R = rightB d := ⟨_, rfl⟩
      have HFIN : Aside (mayB d = (R && emptyD e)) := by rw [Aside, mayB, hR, he]
      have HEO : Aside (EOk e) := by rw [he]; exact HO.out.rest
      rw [← he] at ha'
      rw [← hR]
      clear hR he
      obtain ⟨b', l', o', rfl, rb, rl, ro⟩ := ha'
      obtain ⟨ab, cb, rfl, hcb, _⟩ := rb
      obtain ⟨al, cl, rfl, hcl, _⟩ := rl
      obtain ⟨ao, co, rfl, hco, _⟩ := ro
      have HR2 := aside hr'
      have HB2 := aside hb'
      clear hr' hb' hcb hcl hco
      have c2 : wc.cell? ⟨L, 2, none⟩ = some (.int .i64 e.lot) := HR2.out.lot
      have c3 : wc.cell? ⟨L, 3, none⟩ = some (.int .i64 e.carrier) := HR2.out.carrier
      have c43 : wc.cell? ⟨L, 43, none⟩ = some (.int .i64 e.carriers) := HR2.out.carriers
      have c44 : wc.cell? ⟨L, 44, none⟩ = some (.int .i64 e.commit) := HR2.out.commit
      have c45 : wc.cell? ⟨L, 45, none⟩ = some (.int .i64 e.reveal) := HR2.out.reveal
      have c46 : wc.cell? ⟨L, 46, none⟩ = some (.int .i64 e.scheme) := HR2.out.scheme
      have c38 : wc.cell? ⟨L, 38, none⟩ = some (.int .u64 e.bid) := HR2.out.bid
      have c39 : wc.cell? ⟨L, 39, none⟩ = some (.int .u64 e.nonce) := HR2.out.nonce
      obtain ⟨nb, hnb⟩ : ∃ n, n = e.barred.length := ⟨_, rfl⟩
      obtain ⟨nl, hnl⟩ : ∃ n, n = e.lots.length := ⟨_, rfl⟩
      obtain ⟨no, hno⟩ : ∃ n, n = e.owners.length := ⟨_, rfl⟩
      have c5 : wc.cell? ⟨L, 5, none⟩ = some (.slice ab nb cb) := by rw [hnb]; exact HR2.out.barred
      have c47 : wc.cell? ⟨L, 47, none⟩ = some (.slice al nl cl) := by rw [hnl]; exact HR2.out.lots
      have c48 : wc.cell? ⟨L, 48, none⟩ = some (.slice ao no co) := by rw [hno]; exact HR2.out.owners
      have hrows : nb + nl + no ≤ 1099511627776 := by rw [hnb, hnl, hno]; exact HEO.out.rows
      obtain ⟨E, hE⟩ : ∃ E : Bool, E = zeroB e := ⟨_, rfl⟩
      have HE := aside hE
      have HEN : Aside (E = (sixB e && (twoB e && decide (nb + nl + no = 0)))) := by rw [Aside, hE, zeroB, hnb, hnl, hno]
      clear hE hnb hnl hno
      go_upto_region 21 with fail
      go_cut [5] (fun s5 wx => s5 = .bool E ∧ wx = wc)
      case first =>
        have h6 := HEO.out.six
        obtain ⟨B6, hB6⟩ : ∃ B : Bool, B = sixB e := ⟨_, rfl⟩
        obtain ⟨B2, hB2⟩ : ∃ B : Bool, B = twoB e := ⟨_, rfl⟩
        have h2 := HEO.out.two
        rw [← hB6] at h6
        rw [← hB2] at h2
        have HEN := HEN.out
        rw [← hB6, ← hB2] at HEN
        have HEN := aside HEN
        clear hB6 hB2
        cases B6 with
        | false =>
          have HQ : Aside (E = false) := by rw [Aside, HEN.out]; rfl
          go_wp2_with fail
          go_meet
          case rel => exact ⟨by rw [HQ.out], rfl⟩
        | true =>
          cases B2 with
          | false =>
            have HQ : Aside (E = false) := by rw [Aside, HEN.out]; rfl
            go_wp2_with fail
            go_meet
            case rel => exact ⟨by rw [HQ.out], rfl⟩
          | true =>
            by_cases hn : nb + nl + no = 0
            · have HQ : Aside (E = true) := by rw [Aside, HEN.out, decide_eq_true hn]; rfl
              obtain rfl : nb = 0 := by omega
              obtain rfl : nl = 0 := by omega
              obtain rfl : no = 0 := by omega
              clear hn
              go_wp2_with fail
              go_meet
              case rel => exact ⟨by rw [HQ.out], rfl⟩
            · have HQ : Aside (E = false) := by rw [Aside, HEN.out, decide_eq_false hn]; rfl
              have hb : (((nb : Int) + nl + no) == 0) = false := by simp; omega
              clear hn
              go_wp2_with fail
              go_meet
              case rel => exact ⟨by rw [HQ.out], rfl⟩
      case rest =>
        obtain ⟨rfl, rfl⟩ := hcut
        clear c2 c3 c43 c44 c45 c46 c38 c39 c5 c47 c48 hrows HEN
        have c40 : wc.cell? ⟨L, 40, none⟩ = some (.int .i64 e.state) := HR2.out.state
        have c41 : wc.cell? ⟨L, 41, none⟩ = some (.int .i64 e.winner) := HR2.out.winner
        have c42 : wc.cell? ⟨L, 42, none⟩ = some (.int .u64 e.price) := HR2.out.price
        obtain ⟨ds, hds⟩ : ∃ ds : Array Value, ((List.range 32).map fun j => Value.int .u8 (e.dig.getD j 0)).toArray = ds := ⟨_, rfl⟩
        have heq : ∀ W, (binOp .eql 33 (.agg ds) (.agg #[.int .u8 0, .int .u8 0, .int .u8 0, .int .u8 0, .int .u8 0, .int .u8 0, .int .u8 0, .int .u8 0, .int .u8 0, .int .u8 0, .int .u8 0, .int .u8 0, .int .u8 0, .int .u8 0, .int .u8 0, .int .u8 0, .int .u8 0, .int .u8 0, .int .u8 0, .int .u8 0, .int .u8 0, .int .u8 0, .int .u8 0, .int .u8 0, .int .u8 0, .int .u8 0, .int .u8 0, .int .u8 0, .int .u8 0, .int .u8 0, .int .u8 0, .int .u8 0])).run Tryz.prog W = .ok (.bool (digB e)) W := by
          intro W
          rw [← hds]
          exact eqDig _ _ (fun j => e.dig.getD j 0) (fun _ => 0) (range_get _) zeroD_get W
        have hrg : wc.rangeAt L 6 ((List.range 32).map fun j => Value.int .u8 (e.dig.getD j 0)) := HR2.out.digRange
        have HDS := aside hds
        have HRG := aside hrg
        clear hrg
        have heo := fun W => eqOut e.state e.winner e.price 0 0 0 W
        have HF : Aside (mayB d = (((R && E) && digB e) && (e.state == 0 && (e.winner == 0 && e.price == 0)))) := by
          rw [Aside, HFIN.out, HE.out, empty_eq HEO.out.len]
          simp only [Bool.and_assoc]
        obtain ⟨B, hB⟩ : ∃ B : Bool, B = digB e := ⟨_, rfl⟩
        obtain ⟨B5, hB5⟩ : ∃ B : Bool, B = (e.state == 0 && (e.winner == 0 && e.price == 0)) := ⟨_, rfl⟩
        rw [← hB] at heq
        have HF := HF.out
        rw [← hB, ← hB5] at HF
        have HF := aside HF
        simp only [← hB5] at heo
        clear hB hB5 hds HFIN HE
        cases R with
        | false =>
          have HQ : Aside (mayB d = false) := by rw [Aside, HF.out]; simp
          go_wp2_with fail
          go_ret
          exact ⟨by rw [HQ.out]; rfl, HB2.out⟩
        | true =>
          cases E with
          | false =>
            have HQ : Aside (mayB d = false) := by rw [Aside, HF.out]; simp
            go_wp2_with fail
            go_ret
            exact ⟨by rw [HQ.out]; rfl, HB2.out⟩
          | true =>
            cases B with
            | false =>
              have HQ : Aside (mayB d = false) := by rw [Aside, HF.out]; simp
              go_wp2_with (first | (refine wpList_load_midG (by rfl) _ _ rfl L 6 rfl _ _ HRG.out Tryz.underlying33 rfl (by kernel_rfl) ds HDS.out ?_) | fail)
              go_ret
              exact ⟨by rw [HQ.out]; rfl, HB2.out⟩
            | true =>
              have HQ : Aside (mayB d = B5) := by rw [Aside, HF.out]; simp
              go_wp2_with (first | (refine wpList_load_midG (by rfl) _ _ rfl L 6 rfl _ _ HRG.out Tryz.underlying33 rfl (by kernel_rfl) ds HDS.out ?_) | fail)
              go_ret
              exact ⟨by rw [HQ.out]; rfl, HB2.out⟩
end Go.Proofs.YtkpmcjfolncmmaaGreatDoor
