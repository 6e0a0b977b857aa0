/- consignref24.Same, walked. Printed by wip/gen/same.py. -/
import Derived.Test.YtkpmcjfolncmmaaGreatDoorSSame1
set_option linter.all false
namespace Go.Proofs.YtkpmcjfolncmmaaGreatDoor
open Go.RowKit
def sameOne (d e : RecD) : Bool := (d.kind == e.kind) && ((d.round == e.round) && ((d.lot == e.lot) && ((d.carrier == e.carrier) && ((d.tick == e.tick) && (decide (∀ j ∈ List.range 32, d.dig.getD j 0 = e.dig.getD j 0) && ((d.bid == e.bid) && ((d.nonce == e.nonce) && (d.state == e.state && (d.winner == e.winner && d.price == e.price)))))))))
def sameTwo (d e : RecD) : Bool := (d.carriers == e.carriers) && ((d.commit == e.commit) && ((d.reveal == e.reveal) && ((d.scheme == e.scheme) && (decide (d.barred = e.barred) && (decide (d.lots = e.lots) && decide (d.owners = e.owners))))))
theorem same_eq (d e : RecD) (hd : d.dig.length = 32) (he : e.dig.length = 32) : decide (d = e) = (sameOne d e && sameTwo d e) := by
  rw [Bool.eq_iff_iff]
  simp only [sameOne, sameTwo, Bool.and_eq_true, decide_eq_true_eq, beq_iff_eq]
  constructor
  · rintro rfl
    simp
  · rintro ⟨⟨h1, h2, h3, h4, h5, h6, h7, h8, h9, h10, h11⟩, h12, h13, h14, h15, h16, h17, h18⟩
    have hg : d.dig = e.dig := list_ext_getD 0 (by rw [hd, he]) (fun j hj => h6 j (List.mem_range.2 (by omega)))
    cases d
    cases e
    simp_all
set_option maxHeartbeats 4000000 in
set_option maxRecDepth 100000 in
theorem same_any (rv rv' : RecV) (d e : RecD) (hd : d.dig.length = 32) (he : e.dig.length = 32) (hdr : d.barred.length + d.lots.length + d.owners.length ≤ 1099511627776) (her : e.barred.length + e.lots.length + e.owners.length ≤ 1099511627776) (w : World) (h1 : RecAt w rv d) (h2 : RecAt w rv' e) :
    Calls Tryz.prog 10 #[.agg (recCells rv), .agg (recCells rv')] w fun x w' => x = .returned (.bool (decide (d = e))) ∧ Below w.heap.size w w' := by
  rw [same_eq d e hd he]
  obtain ⟨b1, l1, o1, rfl, hb1, hl1, ho1⟩ := h1
  obtain ⟨b2, l2, o2, rfl, hb2, hl2, ho2⟩ := h2
  obtain ⟨A, hA⟩ : ∃ x, x = w.heap.size := ⟨_, rfl⟩
  obtain ⟨B, hB⟩ : ∃ x, x = w.heap.size + 1 := ⟨_, rfl⟩
  obtain ⟨w2, hw2⟩ : ∃ z, z = (w.alloc (.cells (recCells (d.toV b1 l1 o1)) 38)).alloc (.cells (recCells (e.toV b2 l2 o2)) 38) := ⟨_, rfl⟩
  have hn := new_alloc (w.alloc (.cells (recCells (d.toV b1 l1 o1)) 38)) (.cells (recCells (e.toV b2 l2 o2)) 38)
  have HN2 : Aside (Below w.heap.size w w2) := by rw [hw2]; exact new_trans (new_alloc _ _) (new_alloc _ _)
  have HA : Aside (RecIn w2 A (d.toV b1 l1 o1)) := by rw [hw2, hA]; exact (RecIn.box w _).new hn
  have HB : Aside (RecIn w2 B (e.toV b2 l2 o2)) := by
    have := RecIn.box (w.alloc (.cells (recCells (d.toV b1 l1 o1)) 38)) (e.toV b2 l2 o2)
    rw [Aside, hw2, hB]
    simpa using this
  have HB1 := aside (hb1.on HN2.out)
  have HL1 := aside (hl1.on HN2.out)
  have HO1 := aside (ho1.on HN2.out)
  have HB2 := aside (hb2.on HN2.out)
  have HL2 := aside (hl2.on HN2.out)
  have HO2 := aside (ho2.on HN2.out)
  have HDR := aside hdr
  have HER := aside her
  obtain ⟨ds, hds⟩ : ∃ ds : Array Value, ((List.range 32).map fun j => Value.int .u8 (d.dig.getD j 0)).toArray = ds := ⟨_, rfl⟩
  obtain ⟨es, hes⟩ : ∃ es : Array Value, ((List.range 32).map fun j => Value.int .u8 (e.dig.getD j 0)).toArray = es := ⟨_, rfl⟩
  have heq : ∀ W, (binOp .eql 33 (.agg ds) (.agg es)).run Tryz.prog W = .ok (.bool (decide (∀ j ∈ List.range 32, d.dig.getD j 0 = e.dig.getD j 0))) W := by
    intro W
    rw [← hds, ← hes]
    exact eqDig _ _ (fun j => d.dig.getD j 0) (fun j => e.dig.getD j 0) (range_get _) (range_get _) W
  have heo := fun W => eqOut d.state d.winner d.price e.state e.winner e.price W
  have HGA : Aside (w2.rangeAt A 6 ((List.range 32).map fun j => Value.int .u8 (d.dig.getD j 0))) := HA.out.digRange
  have HGB : Aside (w2.rangeAt B 6 ((List.range 32).map fun j => Value.int .u8 (e.dig.getD j 0))) := HB.out.digRange
  have HDS := aside hds
  have HES := aside hes
  have HAB : Aside (A ≠ B) := by rw [Aside]; omega
  obtain ⟨O, hO⟩ : ∃ O : Bool, O = sameOne d e := ⟨_, rfl⟩
  rw [← hO]
  have HO := aside hO
  clear hb1 hl1 ho1 hb2 hl2 ho2 hdr her hds hes hd he hn hO
  go_enter Tryz.func10, Tryz.ntmps10
  go_upto_region 1 with fail
  rw [← hw2, ← hB, ← hA]
  clear hw2 hB hA
  go_cut [5] (fun s5 wx => s5 = .bool O ∧ wx = w2)
  case first =>
    have a0 : w2.cell? ⟨A, 0, none⟩ = some (.int .i64 d.kind) := HA.out.kind
    have b0 : w2.cell? ⟨B, 0, none⟩ = some (.int .i64 e.kind) := HB.out.kind
    have a1 : w2.cell? ⟨A, 1, none⟩ = some (.int .i64 d.round) := HA.out.round
    have b1 : w2.cell? ⟨B, 1, none⟩ = some (.int .i64 e.round) := HB.out.round
    have a2 : w2.cell? ⟨A, 2, none⟩ = some (.int .i64 d.lot) := HA.out.lot
    have b2 : w2.cell? ⟨B, 2, none⟩ = some (.int .i64 e.lot) := HB.out.lot
    have a3 : w2.cell? ⟨A, 3, none⟩ = some (.int .i64 d.carrier) := HA.out.carrier
    have b3 : w2.cell? ⟨B, 3, none⟩ = some (.int .i64 e.carrier) := HB.out.carrier
    have a4 : w2.cell? ⟨A, 4, none⟩ = some (.int .i64 d.tick) := HA.out.tick
    have b4 : w2.cell? ⟨B, 4, none⟩ = some (.int .i64 e.tick) := HB.out.tick
    have a38 : w2.cell? ⟨A, 38, none⟩ = some (.int .u64 d.bid) := HA.out.bid
    have b38 : w2.cell? ⟨B, 38, none⟩ = some (.int .u64 e.bid) := HB.out.bid
    have a39 : w2.cell? ⟨A, 39, none⟩ = some (.int .u64 d.nonce) := HA.out.nonce
    have b39 : w2.cell? ⟨B, 39, none⟩ = some (.int .u64 e.nonce) := HB.out.nonce
    have a40 : w2.cell? ⟨A, 40, none⟩ = some (.int .i64 d.state) := HA.out.state
    have b40 : w2.cell? ⟨B, 40, none⟩ = some (.int .i64 e.state) := HB.out.state
    have a41 : w2.cell? ⟨A, 41, none⟩ = some (.int .i64 d.winner) := HA.out.winner
    have b41 : w2.cell? ⟨B, 41, none⟩ = some (.int .i64 e.winner) := HB.out.winner
    have a42 : w2.cell? ⟨A, 42, none⟩ = some (.int .u64 d.price) := HA.out.price
    have b42 : w2.cell? ⟨B, 42, none⟩ = some (.int .u64 e.price) := HB.out.price
    obtain ⟨q0, hq0⟩ : ∃ q : Bool, (d.kind == e.kind) = q := ⟨_, rfl⟩
    obtain ⟨q1, hq1⟩ : ∃ q : Bool, (d.round == e.round) = q := ⟨_, rfl⟩
    obtain ⟨q2, hq2⟩ : ∃ q : Bool, (d.lot == e.lot) = q := ⟨_, rfl⟩
    obtain ⟨q3, hq3⟩ : ∃ q : Bool, (d.carrier == e.carrier) = q := ⟨_, rfl⟩
    obtain ⟨q4, hq4⟩ : ∃ q : Bool, (d.tick == e.tick) = q := ⟨_, rfl⟩
    obtain ⟨q5, hq5⟩ : ∃ q : Bool, decide (∀ j ∈ List.range 32, d.dig.getD j 0 = e.dig.getD j 0) = q := ⟨_, rfl⟩
    obtain ⟨q6, hq6⟩ : ∃ q : Bool, (d.bid == e.bid) = q := ⟨_, rfl⟩
    obtain ⟨q7, hq7⟩ : ∃ q : Bool, (d.nonce == e.nonce) = q := ⟨_, rfl⟩
    obtain ⟨q8, hq8⟩ : ∃ q : Bool, (d.state == e.state && (d.winner == e.winner && d.price == e.price)) = q := ⟨_, rfl⟩
    have HE : Aside (O = (q0 && (q1 && (q2 && (q3 && (q4 && (q5 && (q6 && (q7 && q8))))))))) := by rw [Aside, HO.out, sameOne, hq0, hq1, hq2, hq3, hq4, hq5, hq6, hq7, hq8]
    rw [hq5] at heq
    simp only [hq8] at heo
    clear hq5 hq8
    cases q0 with
    | false =>
      have HQ : Aside (O = false) := by rw [Aside, HE.out]; rfl
      go_wp2_with (first
        | (refine wpList_load_midG (by rfl) _ _ rfl A 6 rfl _ _ HGA.out Tryz.underlying33 rfl (by kernel_rfl) ds HDS.out ?_)
        | (refine wpList_load_midG (by rfl) _ _ rfl B 6 rfl _ _ HGB.out Tryz.underlying33 rfl (by kernel_rfl) es HES.out ?_)
        | fail)
      go_meet
      case rel => exact ⟨by rw [HQ.out], rfl⟩
    | true =>
      cases q1 with
      | false =>
        have HQ : Aside (O = false) := by rw [Aside, HE.out]; rfl
        go_wp2_with (first
          | (refine wpList_load_midG (by rfl) _ _ rfl A 6 rfl _ _ HGA.out Tryz.underlying33 rfl (by kernel_rfl) ds HDS.out ?_)
          | (refine wpList_load_midG (by rfl) _ _ rfl B 6 rfl _ _ HGB.out Tryz.underlying33 rfl (by kernel_rfl) es HES.out ?_)
          | fail)
        go_meet
        case rel => exact ⟨by rw [HQ.out], rfl⟩
      | true =>
        cases q2 with
        | false =>
          have HQ : Aside (O = false) := by rw [Aside, HE.out]; rfl
          go_wp2_with (first
            | (refine wpList_load_midG (by rfl) _ _ rfl A 6 rfl _ _ HGA.out Tryz.underlying33 rfl (by kernel_rfl) ds HDS.out ?_)
            | (refine wpList_load_midG (by rfl) _ _ rfl B 6 rfl _ _ HGB.out Tryz.underlying33 rfl (by kernel_rfl) es HES.out ?_)
            | fail)
          go_meet
          case rel => exact ⟨by rw [HQ.out], rfl⟩
        | true =>
          cases q3 with
          | false =>
            have HQ : Aside (O = false) := by rw [Aside, HE.out]; rfl
            go_wp2_with (first
              | (refine wpList_load_midG (by rfl) _ _ rfl A 6 rfl _ _ HGA.out Tryz.underlying33 rfl (by kernel_rfl) ds HDS.out ?_)
              | (refine wpList_load_midG (by rfl) _ _ rfl B 6 rfl _ _ HGB.out Tryz.underlying33 rfl (by kernel_rfl) es HES.out ?_)
              | fail)
            go_meet
            case rel => exact ⟨by rw [HQ.out], rfl⟩
          | true =>
            cases q4 with
            | false =>
              have HQ : Aside (O = false) := by rw [Aside, HE.out]; rfl
              go_wp2_with (first
                | (refine wpList_load_midG (by rfl) _ _ rfl A 6 rfl _ _ HGA.out Tryz.underlying33 rfl (by kernel_rfl) ds HDS.out ?_)
                | (refine wpList_load_midG (by rfl) _ _ rfl B 6 rfl _ _ HGB.out Tryz.underlying33 rfl (by kernel_rfl) es HES.out ?_)
                | fail)
              go_meet
              case rel => exact ⟨by rw [HQ.out], rfl⟩
            | true =>
              cases q5 with
              | false =>
                have HQ : Aside (O = false) := by rw [Aside, HE.out]; rfl
                go_wp2_with (first
                  | (refine wpList_load_midG (by rfl) _ _ rfl A 6 rfl _ _ HGA.out Tryz.underlying33 rfl (by kernel_rfl) ds HDS.out ?_)
                  | (refine wpList_load_midG (by rfl) _ _ rfl B 6 rfl _ _ HGB.out Tryz.underlying33 rfl (by kernel_rfl) es HES.out ?_)
                  | fail)
                go_meet
                case rel => exact ⟨by rw [HQ.out], rfl⟩
              | true =>
                cases q6 with
                | false =>
                  have HQ : Aside (O = false) := by rw [Aside, HE.out]; rfl
                  go_wp2_with (first
                    | (refine wpList_load_midG (by rfl) _ _ rfl A 6 rfl _ _ HGA.out Tryz.underlying33 rfl (by kernel_rfl) ds HDS.out ?_)
                    | (refine wpList_load_midG (by rfl) _ _ rfl B 6 rfl _ _ HGB.out Tryz.underlying33 rfl (by kernel_rfl) es HES.out ?_)
                    | fail)
                  go_meet
                  case rel => exact ⟨by rw [HQ.out], rfl⟩
                | true =>
                  cases q7 with
                  | false =>
                    have HQ : Aside (O = false) := by rw [Aside, HE.out]; rfl
                    go_wp2_with (first
                      | (refine wpList_load_midG (by rfl) _ _ rfl A 6 rfl _ _ HGA.out Tryz.underlying33 rfl (by kernel_rfl) ds HDS.out ?_)
                      | (refine wpList_load_midG (by rfl) _ _ rfl B 6 rfl _ _ HGB.out Tryz.underlying33 rfl (by kernel_rfl) es HES.out ?_)
                      | fail)
                    go_meet
                    case rel => exact ⟨by rw [HQ.out], rfl⟩
                  | true =>
                    have HQ : Aside (O = q8) := by rw [Aside, HE.out]; simp
                    go_wp2_with (first
                      | (refine wpList_load_midG (by rfl) _ _ rfl A 6 rfl _ _ HGA.out Tryz.underlying33 rfl (by kernel_rfl) ds HDS.out ?_)
                      | (refine wpList_load_midG (by rfl) _ _ rfl B 6 rfl _ _ HGB.out Tryz.underlying33 rfl (by kernel_rfl) es HES.out ?_)
                      | fail)
                    go_meet
                    case rel => exact ⟨by rw [HQ.out], rfl⟩
  case rest =>
    obtain ⟨rfl, rfl⟩ := hcut
    clear heq heo HGA HGB HDS HES
    cases O with
    | false =>
      go_wp2_with fail
      go_ret
      exact ⟨rfl, HN2.out⟩
    | true =>
      have a43 : wc.cell? ⟨A, 43, none⟩ = some (.int .i64 d.carriers) := HA.out.carriers
      have b43 : wc.cell? ⟨B, 43, none⟩ = some (.int .i64 e.carriers) := HB.out.carriers
      have a44 : wc.cell? ⟨A, 44, none⟩ = some (.int .i64 d.commit) := HA.out.commit
      have b44 : wc.cell? ⟨B, 44, none⟩ = some (.int .i64 e.commit) := HB.out.commit
      have a45 : wc.cell? ⟨A, 45, none⟩ = some (.int .i64 d.reveal) := HA.out.reveal
      have b45 : wc.cell? ⟨B, 45, none⟩ = some (.int .i64 e.reveal) := HB.out.reveal
      have a46 : wc.cell? ⟨A, 46, none⟩ = some (.int .i64 d.scheme) := HA.out.scheme
      have b46 : wc.cell? ⟨B, 46, none⟩ = some (.int .i64 e.scheme) := HB.out.scheme
      have a5 : wc.cell? ⟨A, 5, none⟩ = some b1 := HA.out.barred
      have b5 : wc.cell? ⟨B, 5, none⟩ = some b2 := HB.out.barred
      have a47 : wc.cell? ⟨A, 47, none⟩ = some l1 := HA.out.lots
      have b47 : wc.cell? ⟨B, 47, none⟩ = some l2 := HB.out.lots
      have a48 : wc.cell? ⟨A, 48, none⟩ = some o1 := HA.out.owners
      have b48 : wc.cell? ⟨B, 48, none⟩ = some o2 := HB.out.owners
      obtain ⟨q0, hq0⟩ : ∃ q : Bool, (d.carriers == e.carriers) = q := ⟨_, rfl⟩
      obtain ⟨q1, hq1⟩ : ∃ q : Bool, (d.commit == e.commit) = q := ⟨_, rfl⟩
      obtain ⟨q2, hq2⟩ : ∃ q : Bool, (d.reveal == e.reveal) = q := ⟨_, rfl⟩
      obtain ⟨q3, hq3⟩ : ∃ q : Bool, (d.scheme == e.scheme) = q := ⟨_, rfl⟩
      obtain ⟨q4, hq4⟩ : ∃ q : Bool, decide (d.barred = e.barred) = q := ⟨_, rfl⟩
      obtain ⟨q5, hq5⟩ : ∃ q : Bool, decide (d.lots = e.lots) = q := ⟨_, rfl⟩
      obtain ⟨q6, hq6⟩ : ∃ q : Bool, decide (d.owners = e.owners) = q := ⟨_, rfl⟩
      have HE : Aside (sameTwo d e = (q0 && (q1 && (q2 && (q3 && (q4 && (q5 && q6))))))) := by rw [Aside, sameTwo, hq0, hq1, hq2, hq3, hq4, hq5, hq6]
      have HQ4 := aside hq4
      have HQ5 := aside hq5
      have HQ6 := aside hq6
      clear hq4 hq5 hq6
      cases q0 with
      | false =>
        have HQ : Aside ((true && sameTwo d e) = false) := by rw [Aside, HE.out]; simp
        go_wp2_with fail
        go_ret
        exact ⟨by rw [HQ.out]; rfl, HN2.out⟩
      | true =>
        cases q1 with
        | false =>
          have HQ : Aside ((true && sameTwo d e) = false) := by rw [Aside, HE.out]; simp
          go_wp2_with fail
          go_ret
          exact ⟨by rw [HQ.out]; rfl, HN2.out⟩
        | true =>
          cases q2 with
          | false =>
            have HQ : Aside ((true && sameTwo d e) = false) := by rw [Aside, HE.out]; simp
            go_wp2_with fail
            go_ret
            exact ⟨by rw [HQ.out]; rfl, HN2.out⟩
          | true =>
            cases q3 with
            | false =>
              have HQ : Aside ((true && sameTwo d e) = false) := by rw [Aside, HE.out]; simp
              go_wp2_with fail
              go_ret
              exact ⟨by rw [HQ.out]; rfl, HN2.out⟩
            | true =>
              go_wp2_with fail
              refine (ints_same b1 b2 d.barred e.barred (by have := HDR.out; omega) (by have := HER.out; omega) wc HB1.out HB2.out).mono ?_
              rintro x v0 ⟨rfl, hv⟩
              rw [HQ4.out]
              have HN3 := aside (HN2.out.trans (hv.mono HN2.out.size))
              have HAn := aside (HA.out.new hv)
              have HBn := aside (HB.out.new hv)
              have HL1 := aside (HL1.out.on hv)
              have HL2 := aside (HL2.out.on hv)
              have HO1 := aside (HO1.out.on hv)
              have HO2 := aside (HO2.out.on hv)
              clear hv a5 b5
              clear a47 b47 a48 b48 a43 b43 a44 b44 a45 b45 a46 b46
              have HA := HAn
              have HB := HBn
              clear HAn HBn
              have a47 : v0.cell? ⟨A, 47, none⟩ = some l1 := HA.out.lots
              have b47 : v0.cell? ⟨B, 47, none⟩ = some l2 := HB.out.lots
              have a48 : v0.cell? ⟨A, 48, none⟩ = some o1 := HA.out.owners
              have b48 : v0.cell? ⟨B, 48, none⟩ = some o2 := HB.out.owners
              cases q4 with
              | false =>
                have HQ : Aside ((true && sameTwo d e) = false) := by rw [Aside, HE.out]; simp
                go_wp2_with fail
                go_ret
                exact ⟨by rw [HQ.out]; rfl, HN3.out⟩
              | true =>
                go_wp2_with fail
                refine (lots_same l1 l2 d.lots e.lots (by have := HDR.out; omega) (by have := HER.out; omega) v0 HL1.out HL2.out).mono ?_
                rintro x v1 ⟨rfl, hv⟩
                rw [HQ5.out]
                have HN4 := aside (HN3.out.trans (hv.mono HN3.out.size))
                have HAn := aside (HA.out.new hv)
                have HBn := aside (HB.out.new hv)
                have HO1 := aside (HO1.out.on hv)
                have HO2 := aside (HO2.out.on hv)
                clear hv a47 b47
                clear a48 b48
                have HA := HAn
                have HB := HBn
                clear HAn HBn
                have a48 : v1.cell? ⟨A, 48, none⟩ = some o1 := HA.out.owners
                have b48 : v1.cell? ⟨B, 48, none⟩ = some o2 := HB.out.owners
                cases q5 with
                | false =>
                  have HQ : Aside ((true && sameTwo d e) = false) := by rw [Aside, HE.out]; simp
                  go_wp2_with fail
                  go_ret
                  exact ⟨by rw [HQ.out]; rfl, HN4.out⟩
                | true =>
                  go_wp2_with fail
                  refine (ints_same o1 o2 d.owners e.owners (by have := HDR.out; omega) (by have := HER.out; omega) v1 HO1.out HO2.out).mono ?_
                  rintro x v2 ⟨rfl, hv⟩
                  rw [HQ6.out]
                  have HN5 := aside (HN4.out.trans (hv.mono HN4.out.size))
                  have HAn := aside (HA.out.new hv)
                  have HBn := aside (HB.out.new hv)
                  clear hv a48 b48
                  have HQ : Aside ((true && sameTwo d e) = q6) := by rw [Aside, HE.out]; simp
                  go_wp2_with fail
                  go_ret
                  exact ⟨by rw [HQ.out]; rfl, HN5.out⟩
end Go.Proofs.YtkpmcjfolncmmaaGreatDoor
