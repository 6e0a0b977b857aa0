/- chain.may, walked: kind 4. Printed by wip/gen/may.py. -/
import Derived.Test.YtfnekbfcndkjeaaGreatDoorSSame1
set_option linter.all false
namespace Go.Proofs.YtfnekbfcndkjeaaGreatDoor
open Go.RowKit
set_option maxHeartbeats 2000000 in
set_option maxRecDepth 100000 in
theorem may_k4 (rv : RecV) (d : RecD) (ho : d.ok) (hkd : d.kind = 4) (w : World) (h : RecAt w rv d) :
    Calls Tryz.prog 64 #[.agg (recCells rv)] w fun e w' => e = .returned (.bool (mayB d)) ∧ Below w.heap.size w w' := by
  obtain ⟨b, l, o, rfl, hb, hl, hw⟩ := h
  obtain ⟨L, hL⟩ : ∃ x, x = w.heap.size := ⟨_, rfl⟩
  obtain ⟨w0, hw0⟩ : ∃ z, z = w.alloc (.cells (recCells (d.toV b l o)) 49) := ⟨_, rfl⟩
  have HN0 : Aside (Below w.heap.size w w0) := by rw [hw0]; exact new_alloc _ _
  have HR0 : Aside (RecIn w0 L (d.toV b l o)) := by rw [hw0, hL]; exact RecIn.box _ _
  have HLw : Aside (w.heap.size ≤ L) := Nat.le_of_eq hL.symm
  have HRB : Aside (RowI w b d.barred) := hb
  have HRL : Aside (RowL w l d.lots) := hl
  have HRW : Aside (RowI w o d.owners) := hw
  have HO := aside ho
  have HKD := aside hkd
  clear hb hl hw ho hkd
  obtain ⟨RB, hRB⟩ : ∃ x : Bool, x = baseB d := ⟨_, rfl⟩
  have HBASE := aside hRB
  clear hRB
  go_enter Tryz.func64, Tryz.ntmps64
  go_upto_region 1 with fail
  rw [← hw0, ← hL]
  clear hw0 hL
  go_cut [3] (fun s3 wx => s3 = .bool RB ∧ wx = w0)
  case first =>
    have c4 : w0.cell? ⟨L, 4, none⟩ = some (.int .i64 d.tick) := HR0.out.tick
    have c1 : w0.cell? ⟨L, 1, none⟩ = some (.int .i64 d.round) := HR0.out.round
    by_cases h1 : 0 ≤ d.tick
    · go_wp2_with fail
      refine (within_any d.round 0 15 _).mono ?_
      rintro e w1 ⟨rfl, rfl⟩
      have HE : Aside (RB = withinB d.round 0 15) := by rw [Aside, HBASE.out, baseB, decide_eq_true h1, Bool.true_and]
      clear h1
      go_wp2_with fail
      go_meet
      case rel => exact ⟨by rw [HE.out], rfl⟩
    · have HE : Aside (RB = false) := by rw [Aside, HBASE.out, baseB, decide_eq_false h1, Bool.false_and]
      go_wp2_with fail
      go_meet
      case rel => exact ⟨by rw [HE.out], rfl⟩
  case rest =>
    obtain ⟨rfl, rfl⟩ := hcut
    have c0 : wc.cell? ⟨L, 0, none⟩ = some (.int .i64 4) := by rw [← HKD.out]; exact HR0.out.kind
    go_upto_block 0 with fail
    go_cut [3] (fun s3 wx => MayMid d w L s3 wx)
    case first =>
      clear c0
      have c3 : wc.cell? ⟨L, 3, none⟩ = some (.int .i64 d.carrier) := HR0.out.carrier
      have c38 : wc.cell? ⟨L, 38, none⟩ = some (.int .u64 d.bid) := HR0.out.bid
      have c39 : wc.cell? ⟨L, 39, none⟩ = some (.int .u64 d.nonce) := HR0.out.nonce
      have f3 := HR0.out.free 3
      have f38 := HR0.out.free 38
      have f39 := HR0.out.free 39
      have HRF : Aside (RecIn _ L { d.toV b l o with carrier := 0, bid := 0, nonce := 0 }) := ((HR0.out.setCarrier 0).setBid 0).setNonce 0
      have HBF : Aside (Below w.heap.size w _) := ((HN0.out.setCell (p := ⟨L, 3, none⟩) HLw.out (.int .i64 0)).setCell (p := ⟨L, 38, none⟩) HLw.out (.int .u64 0)).setCell (p := ⟨L, 39, none⟩) HLw.out (.int .u64 0)
      have HM : ∀ s, s = .bool ((RB && withinB d.carrier 0 7) && decide (d.bid ≤ 4294967296)) → Aside (MayMid d w L s _) := fun s hs => ⟨_, by rw [hs, rightB4 HKD.out, HBASE.out], HRF.out, by rw [rest4 HKD.out]; exact ⟨b, l, o, rfl, HRB.out.on HBF.out, HRL.out.on HBF.out, HRW.out.on HBF.out⟩, HBF.out⟩
      have HM := aside HM
      clear HRF HBF
      cases RB with
      | false =>
        go_wp2_with fail
        go_meet
        case rel => exact HM.out _ rfl
      | true =>
        go_wp2_with fail
        refine (within_any d.carrier 0 7 _).mono ?_
        rintro e w1 ⟨rfl, rfl⟩
        obtain ⟨wl, hwl⟩ : ∃ x : Bool, x = withinB d.carrier 0 7 := ⟨_, rfl⟩
        rw [← hwl] at HM ⊢
        clear hwl
        cases wl with
        | false =>
          go_wp2_with fail
          go_meet
          case rel => exact HM.out _ rfl
        | true =>
          by_cases hbd : d.bid ≤ 4294967296
          · have HM := aside (HM.out (.bool true) (by rw [decide_eq_true hbd]; rfl)).out
            go_wp2_with fail
            go_meet
            case rel => exact HM.out
          · have HM := aside (HM.out (.bool false) (by rw [decide_eq_false hbd]; rfl)).out
            have eb : decide (d.bid ≤ 4294967296) = false := decide_eq_false hbd
            clear hbd
            go_wp2_with fail
            go_meet
            case rel => exact HM.out
    case rest =>
      clear c0 HR0 HN0 HRB HRL HRW
      obtain ⟨rv', rfl, hr', ha', hb'⟩ := hcut
      obtain ⟨e, he⟩ : ∃ e, e = restOf d := ⟨_, rfl⟩
      obtain ⟨R, hR⟩ : ∃ R : Bool, R = rightB d := ⟨_, rfl⟩
      have HFIN : Aside (mayB d = (R && emptyD e)) := by rw [Aside, mayB, hR, he]
      have HEO : Aside (EOk e) := by rw [he]; exact HO.out.rest
      rw [← he] at ha'
      rw [← hR]
      clear hR he
      obtain ⟨b', l', o', rfl, rb, rl, ro⟩ := ha'
      obtain ⟨ab, cb, rfl, hcb, _⟩ := rb
      obtain ⟨al, cl, rfl, hcl, _⟩ := rl
      obtain ⟨ao, co, rfl, hco, _⟩ := ro
      have HR2 := aside hr'
      have HB2 := aside hb'
      clear hr' hb' hcb hcl hco
      have c2 : wc.cell? ⟨L, 2, none⟩ = some (.int .i64 e.lot) := HR2.out.lot
      have c3 : wc.cell? ⟨L, 3, none⟩ = some (.int .i64 e.carrier) := HR2.out.carrier
      have c43 : wc.cell? ⟨L, 43, none⟩ = some (.int .i64 e.carriers) := HR2.out.carriers
      have c44 : wc.cell? ⟨L, 44, none⟩ = some (.int .i64 e.commit) := HR2.out.commit
      have c45 : wc.cell? ⟨L, 45, none⟩ = some (.int .i64 e.reveal) := HR2.out.reveal
      have c46 : wc.cell? ⟨L, 46, none⟩ = some (.int .i64 e.scheme) := HR2.out.scheme
      have c38 : wc.cell? ⟨L, 38, none⟩ = some (.int .u64 e.bid) := HR2.out.bid
      have c39 : wc.cell? ⟨L, 39, none⟩ = some (.int .u64 e.nonce) := HR2.out.nonce
      obtain ⟨nb, hnb⟩ : ∃ n, n = e.barred.length := ⟨_, rfl⟩
      obtain ⟨nl, hnl⟩ : ∃ n, n = e.lots.length := ⟨_, rfl⟩
      obtain ⟨no, hno⟩ : ∃ n, n = e.owners.length := ⟨_, rfl⟩
      have c5 : wc.cell? ⟨L, 5, none⟩ = some (.slice ab nb cb) := by rw [hnb]; exact HR2.out.barred
      have c47 : wc.cell? ⟨L, 47, none⟩ = some (.slice al nl cl) := by rw [hnl]; exact HR2.out.lots
      have c48 : wc.cell? ⟨L, 48, none⟩ = some (.slice ao no co) := by rw [hno]; exact HR2.out.owners
      have hrows : nb + nl + no ≤ 1099511627776 := by rw [hnb, hnl, hno]; exact HEO.out.rows
      obtain ⟨E, hE⟩ : ∃ E : Bool, E = zeroB e := ⟨_, rfl⟩
      have HE := aside hE
      have HEN : Aside (E = (sixB e && (twoB e && decide (nb + nl + no = 0)))) := by rw [Aside, hE, zeroB, hnb, hnl, hno]
      clear hE hnb hnl hno
      go_upto_region 21 with fail
      go_cut [5] (fun s5 wx => s5 = .bool E ∧ wx = wc)
      case first =>
        have h6 := HEO.out.six
        obtain ⟨B6, hB6⟩ : ∃ B : Bool, B = sixB e := ⟨_, rfl⟩
        obtain ⟨B2, hB2⟩ : ∃ B : Bool, B = twoB e := ⟨_, rfl⟩
        have h2 := HEO.out.two
        rw [← hB6] at h6
        rw [← hB2] at h2
        have HEN := HEN.out
        rw [← hB6, ← hB2] at HEN
        have HEN := aside HEN
        clear hB6 hB2
        cases B6 with
        | false =>
          have HQ : Aside (E = false) := by rw [Aside, HEN.out]; rfl
          go_wp2_with fail
          go_meet
          case rel => exact ⟨by rw [HQ.out], rfl⟩
        | true =>
          cases B2 with
          | false =>
            have HQ : Aside (E = false) := by rw [Aside, HEN.out]; rfl
            go_wp2_with fail
            go_meet
            case rel => exact ⟨by rw [HQ.out], rfl⟩
          | true =>
            by_cases hn : nb + nl + no = 0
            · have HQ : Aside (E = true) := by rw [Aside, HEN.out, decide_eq_true hn]; rfl
              obtain rfl : nb = 0 := by omega
              obtain rfl : nl = 0 := by omega
              obtain rfl : no = 0 := by omega
              clear hn
              go_wp2_with fail
              go_meet
              case rel => exact ⟨by rw [HQ.out], rfl⟩
            · have HQ : Aside (E = false) := by rw [Aside, HEN.out, decide_eq_false hn]; rfl
              have hb : (((nb : Int) + nl + no) == 0) = false := by simp; omega
              clear hn
              go_wp2_with fail
              go_meet
              case rel => exact ⟨by rw [HQ.out], rfl⟩
      case rest =>
        obtain ⟨rfl, rfl⟩ := hcut
        clear c2 c3 c43 c44 c45 c46 c38 c39 c5 c47 c48 hrows HEN
        have c40 : wc.cell? ⟨L, 40, none⟩ = some (.int .i64 e.state) := HR2.out.state
        have c41 : wc.cell? ⟨L, 41, none⟩ = some (.int .i64 e.winner) := HR2.out.winner
        have c42 : wc.cell? ⟨L, 42, none⟩ = some (.int .u64 e.price) := HR2.out.price
        obtain ⟨ds, hds⟩ : ∃ ds : Array Value, ((List.range 32).map fun j => Value.int .u8 (e.dig.getD j 0)).toArray = ds := ⟨_, rfl⟩
        have heq : ∀ W, (binOp .eql 43 (.agg ds) (.agg #[.int .u8 0, .int .u8 0, .int .u8 0, .int .u8 0, .int .u8 0, .int .u8 0, .int .u8 0, .int .u8 0, .int .u8 0, .int .u8 0, .int .u8 0, .int .u8 0, .int .u8 0, .int .u8 0, .int .u8 0, .int .u8 0, .int .u8 0, .int .u8 0, .int .u8 0, .int .u8 0, .int .u8 0, .int .u8 0, .int .u8 0, .int .u8 0, .int .u8 0, .int .u8 0, .int .u8 0, .int .u8 0, .int .u8 0, .int .u8 0, .int .u8 0, .int .u8 0])).run Tryz.prog W = .ok (.bool (digB e)) W := by
          intro W
          rw [← hds]
          exact eqDig _ _ (fun j => e.dig.getD j 0) (fun _ => 0) (range_get _) zeroD_get W
        have hrg : wc.rangeAt L 6 ((List.range 32).map fun j => Value.int .u8 (e.dig.getD j 0)) := HR2.out.digRange
        have HDS := aside hds
        have HRG := aside hrg
        clear hrg
        have heo := fun W => eqOut e.state e.winner e.price 0 0 0 W
        have HF : Aside (mayB d = (((R && E) && digB e) && (e.state == 0 && (e.winner == 0 && e.price == 0)))) := by
          rw [Aside, HFIN.out, HE.out, empty_eq HEO.out.len]
          simp only [Bool.and_assoc]
        obtain ⟨B, hB⟩ : ∃ B : Bool, B = digB e := ⟨_, rfl⟩
        obtain ⟨B5, hB5⟩ : ∃ B : Bool, B = (e.state == 0 && (e.winner == 0 && e.price == 0)) := ⟨_, rfl⟩
        rw [← hB] at heq
        have HF := HF.out
        rw [← hB, ← hB5] at HF
        have HF := aside HF
        simp only [← hB5] at heo
        clear hB hB5 hds HFIN HE
        cases R with
        | false =>
          have HQ : Aside (mayB d = false) := by rw [Aside, HF.out]; simp
          go_wp2_with fail
          go_ret
          exact ⟨by rw [HQ.out]; rfl, HB2.out⟩
        | true =>
          cases E with
          | false =>
            have HQ : Aside (mayB d = false) := by rw [Aside, HF.out]; simp
            go_wp2_with fail
            go_ret
            exact ⟨by rw [HQ.out]; rfl, HB2.out⟩
          | true =>
            cases B with
            | false =>
              have HQ : Aside (mayB d = false) := by rw [Aside, HF.out]; simp
              go_wp2_with (first | (refine wpList_load_midG (by rfl) _ _ rfl L 6 rfl _ _ HRG.out Tryz.underlying43 rfl (by kernel_rfl) ds HDS.out ?_) | fail)
              go_ret
              exact ⟨by rw [HQ.out]; rfl, HB2.out⟩
            | true =>
              have HQ : Aside (mayB d = B5) := by rw [Aside, HF.out]; simp
              go_wp2_with (first | (refine wpList_load_midG (by rfl) _ _ rfl L 6 rfl _ _ HRG.out Tryz.underlying43 rfl (by kernel_rfl) ds HDS.out ?_) | fail)
              go_ret
              exact ⟨by rw [HQ.out]; rfl, HB2.out⟩
end Go.Proofs.YtfnekbfcndkjeaaGreatDoor
