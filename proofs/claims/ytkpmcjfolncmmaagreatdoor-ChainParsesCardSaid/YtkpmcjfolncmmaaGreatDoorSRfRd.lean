/- The document's Read, walked. Printed by wip/gen/refrd.py. -/
import Derived.Test.YtkpmcjfolncmmaaGreatDoorSRfM3
import Derived.Test.YtkpmcjfolncmmaaGreatDoorSRef5
import Derived.Test.YtkpmcjfolncmmaaGreatDoorSRef8
import Derived.Test.YtkpmcjfolncmmaaGreatDoorSByt1
import Derived.Test.YtkpmcjfolncmmaaGreatDoorSPln6
set_option linter.all false
namespace Go.Proofs.YtkpmcjfolncmmaaGreatDoor
open Go.RowKit
theorem rr_results {w : World} {X : Nat} {r : RecV} {c : Int} (h : RecIn w X r) (tmps : Array Value) (h2 : tmps.getD 2 undef = .pointer (some ⟨X, 0, none⟩)) (h3 : tmps.getD 3 undef = .int .i64 c) :
    (results Tryz.f9 tmps).run Tryz.prog w = .ok (.tuple #[.agg (recCells r), .int .i64 c]) w := by
  have h2' : tmps[2]?.getD undef = .pointer (some ⟨X, 0, none⟩) := by simpa using h2
  have h3' : tmps[3]?.getD undef = .int .i64 c := by simpa using h3
  have hl := run_loadVar_row (P := Tryz.prog) w X 38 38 (recCells r) (0, 0) _ h Tryz.underlying38 rfl (by rw [recCells_size]; kernel_rfl)
  simp [results, Tryz.results9, asAddr, h2', h3', hl]
theorem wpList_load_row_w {P : Program} {ops : Array Oper} {rest : List Oper} {o : Oper} {a : Act} {w : World} {Q : Exit → Act → World → Prop} (hwd : Region.wanted o (yielded ops a.tmps) = true) (ty : TypeId) (x : Operand) (ho : o.op = .load ty x)
    (g : Nat) (hx : a.eval x = .pointer (some ⟨g, 0, none⟩)) (t : TypeId) (cs : Array Value) (fr : Nat × Nat) (d : TypeDesc) (hg : w.heap[g]? = some (.cells cs t fr))
    (hu : P.underlying ty = some d) (hd : (match d with | .struct _ | .array _ _ => true | _ => false) = true) (hi : (P.info? ty).map (·.size) = some cs.size)
    (h : wpList P ops Q rest (a.put o.dst (.agg cs)) w) : wpList P ops Q (o :: rest) a w :=
  wpList_step fun K hK => by
    simp only [hwd, if_true]
    exact wp_load_row ty x ho g hx t cs fr d hg hu hd hi (hK _ _ h)
theorem build_0 (w : World) : (Instr.build 38 #[]).run Tryz.prog w = .ok (.agg (recCells {})) w := by kernel_rfl
theorem RfIn.fresh (w : World) (t : ByteArray) : RfIn (w.alloc (.cells #[.string t, .bool false] 79)) w.heap.size t false :=
  ⟨cell_new _ _ _ 0, cell_new _ _ _ 1, frozen_new _ _ _ 0, frozen_new _ _ _ 1⟩
set_option maxHeartbeats 4000000 in
set_option maxRecDepth 100000 in
theorem rread_any (t : ByteArray) (hts : t.size ≤ 9223372036854775807) (w : World) : Calls Tryz.prog 9 #[.string t] w (ReadPost (readF t) w) := by
  obtain ⟨a, ha⟩ : ∃ a, a = readF t := ⟨_, rfl⟩
  have HAF := aside ha
  rw [← ha]
  have HTS := aside hts
  clear ha hts
  go_enter Tryz.func9, Tryz.ntmps9
  go_upto_region 1 with fail
  rw [zR]
  obtain ⟨wa, hwa⟩ : ∃ z, z = w.alloc (.cells (recCells {}) 38) := ⟨_, rfl⟩
  have HNa : Aside (Below w.heap.size w wa) := by rw [hwa]; exact new_alloc _ _
  have HXa : Aside (RecIn wa w.heap.size {}) := by rw [hwa]; exact RecIn.box w {}
  have HSA : Aside (wa.heap.size = w.heap.size + 1) := by rw [hwa]; simp [Aside]
  obtain ⟨X, hX⟩ : ∃ x, x = w.heap.size := ⟨_, rfl⟩
  rw [← hwa, ← hX]
  rw [← hX] at HXa
  have HXE := aside hX
  clear hwa hX
  go_upto_region 2 with fail
  obtain ⟨b, hb⟩ : ∃ x, x = wa.heap.size := ⟨_, rfl⟩
  obtain ⟨w1, hw1⟩ : ∃ z, z = wa.alloc (.cells #[.string t, .bool false] 79) := ⟨_, rfl⟩
  have HN1 : Aside (Below w.heap.size w w1) := by rw [hw1]; exact new_trans HNa.out (new_alloc _ _)
  have HX1 : Aside (RecIn w1 X {}) := by rw [hw1]; exact HXa.out.new (new_alloc _ _)
  have HR1 : Aside (RfAt w1 b t (some 0)) := by
    rw [hw1, hb]
    exact ⟨Nat.zero_le _, by rw [extract_whole]; exact RfIn.fresh wa t⟩
  have hsa := HSA.out
  have hxe := HXE.out
  have hXb : X ≠ b := by omega
  have hbw : w.heap.size ≤ b := by omega
  have hXw : w.heap.size ≤ X := by omega
  have HXW := aside hXw
  have HXB : Aside (X < b) := by rw [Aside]; omega
  have HBW := aside hbw
  rw [← hw1, ← hb]
  clear hw1 hb hsa hxe HXa HNa HXE HSA hXw hbw
  go_wp2_with fail
  refine (ref_take1 b t HTS.out (some 0) w1 HR1.out).mono ?_
  rintro e w2 ⟨rfl, hk2, hr2⟩
  have HX2 : Aside (RecIn w2 X {}) := HX1.out.keeps hk2 hXb
  have HN2 : Aside (Below w.heap.size w w2) := new_of_keeps HN1.out hk2 HBW.out
  clear hk2
  by_cases h1 : t.size < 1
  case pos =>
    have HA : Aside (a = ({}, 14)) := by rw [Aside, HAF.out, readF_none h1]
    rw [nx_some, if_neg (by omega)] at hr2
    obtain ⟨r, _, hr⟩ := hr2
    have c1 := hr.bad
    clear hr h1
    have HXE : Aside (w2.setRow X (recCells {}) = w2) := HX2.out.setSame
    have hi0 : (Tryz.prog.info? 38).map (·.size) = some (recCells {}).size := by rw [recCells_size]; kernel_rfl
    have hone : (recCells {}).all (·.oneCell') = true := recCells_one _ rfl rfl rfl
    go_wp2_with (first
      | (refine wpList_build_by rfl 38 _ rfl [] rfl _ (build_0 _) ?_)
      | (refine wpList_store_row rfl _ _ _ rfl X (recCells {}) rfl rfl 38 _ HX2.out hi0 rfl hone ?_; rw [HXE.out])
      | fail)
    refine bodyPost_ret (rr_results HX2.out _ rfl rfl) rfl ?_
    rw [HA.out]
    exact ⟨{}, rfl, RecFrom.nil _ _, HN2.out⟩
  rw [nx_some, if_pos (by omega)] at hr2
  rw [vl_some, if_pos (by omega)]
  have HR2 : Aside (RfAt w2 b t (some 1)) := hr2
  have c1 := hr2.2.bad
  have H1 : Aside (1 ≤ t.size) := by rw [Aside]; omega
  clear hr2 h1
  obtain ⟨v, hv⟩ : ∃ v, v = getV t (0 : Nat) (1 : Nat) := ⟨_, rfl⟩
  rw [← hv]
  have HV : Aside (v = getV t 0 1) := hv
  clear hv
  go_wp2_with fail
  refine (rwithin_any v 1 6 _).mono ?_
  rintro e wq ⟨rfl, hwq⟩
  rw [hwq]
  clear hwq wq
  obtain ⟨B, hB⟩ : ∃ B : Bool, B = withinB v 1 6 := ⟨_, rfl⟩
  rw [← hB]
  cases B with
  | false =>
    have HA : Aside (a = ({}, 15)) := by rw [Aside, HAF.out, readF_kind H1.out (by rw [← HV.out, ← hB])]
    clear hB
    have HXE : Aside (w2.setRow X (recCells {}) = w2) := HX2.out.setSame
    have hi0 : (Tryz.prog.info? 38).map (·.size) = some (recCells {}).size := by rw [recCells_size]; kernel_rfl
    have hone : (recCells {}).all (·.oneCell') = true := recCells_one _ rfl rfl rfl
    go_wp2_with (first
      | (refine wpList_build_by rfl 38 _ rfl [] rfl _ (build_0 _) ?_)
      | (refine wpList_store_row rfl _ _ _ rfl X (recCells {}) rfl rfl 38 _ HX2.out hi0 rfl hone ?_; rw [HXE.out])
      | fail)
    refine bodyPost_ret (rr_results HX2.out _ rfl rfl) rfl ?_
    rw [HA.out]
    exact ⟨{}, rfl, RecFrom.nil _ _, HN2.out⟩
  | true =>
    have HW : Aside (withinB (getV t 0 1) 1 6 = true) := by rw [← HV.out]; exact hB.symm
    have HVB : Aside (1 ≤ v ∧ v ≤ 6) := (within_iff _ _ _).1 hB.symm
    clear hB c1
    go_wp2_with fail
    refine (body_any b t HTS.out v HVB.out (some 1) w2 HR2.out).mono ?_
    rintro e w3 ⟨rv, rfl, hrv, hk3, hr3⟩
    have HX3 : Aside (RecIn w3 X {}) := HX2.out.keeps hk3 hXb
    have HN3 : Aside (Below w.heap.size w w3) := new_of_keeps HN2.out hk3 HBW.out
    have HBX : Aside (X < w2.heap.size) := HX2.out.lt
    clear hk3
    obtain ⟨D, hD⟩ : ∃ D, D = bodyW t v (some 1) := ⟨_, rfl⟩
    rw [← hD] at hrv hr3
    have HD := aside hD
    clear hD
    obtain ⟨D, s⟩ := D
    dsimp only at hrv hr3
    have HRV := aside hrv
    have HR3 := aside hr3
    clear hrv hr3
    obtain ⟨w4, hw4⟩ : ∃ z, z = w3.alloc (.cells (recCells rv) 38) := ⟨_, rfl⟩
    have HST : Aside ((Instr.storeAt 38 (.pointer (some ⟨w3.heap.size, 0, none⟩)) (.agg (recCells rv))).run Tryz.prog (w3.alloc (.cells (recCells {}) 38)) = .ok () w4) := by
      rw [Aside, hw4]
      exact storeAt_fresh w3 38 (recCells {}) _ (by rw [recCells_size]; kernel_rfl) rfl HRV.out.one
    have HW4 := aside hw4
    clear hw4
    go_upto_region 8 with (first
      | (refine wpList_store_by rfl 38 _ _ rfl _ _ rfl rfl HST.out ?_)
      | fail)
    have hw4 := HW4.out
    obtain ⟨Y, hY⟩ : ∃ x, x = w3.heap.size := ⟨_, rfl⟩
    rw [← hY]
    have HB34 : Aside (Below w3.heap.size w3 w4) := by rw [hw4]; exact new_alloc _ _
    have HY4 : Aside (RecIn w4 Y rv) := by rw [hw4, hY]; exact RecIn.box _ _
    have HX4 : Aside (RecIn w4 X {}) := HX3.out.new HB34.out
    have HN4 : Aside (Below w.heap.size w w4) := new_trans HN3.out HB34.out
    have HR4 : Aside (RfAt w4 b t s) := HR3.out.on HB34.out
    have HV4 : Aside (RecFrom w2.heap.size w4 rv D) := HRV.out.on HB34.out
    clear hw4 hY HW4 HST HRV HR3 HX3 HB34 HN3
    cases s with
    | none =>
      have HA : Aside (a = ({}, 14)) := by rw [Aside, HAF.out, readF_broken H1.out HW.out (by rw [← HV.out, ← HD.out])]
      obtain ⟨r, _, hr⟩ := HR4.out
      have c1 := hr.bad
      clear hr
      have HXE : Aside (w4.setRow X (recCells {}) = w4) := HX4.out.setSame
      have hi0 : (Tryz.prog.info? 38).map (·.size) = some (recCells {}).size := by rw [recCells_size]; kernel_rfl
      have hone : (recCells {}).all (·.oneCell') = true := recCells_one _ rfl rfl rfl
      go_wp2_with (first
        | (refine wpList_build_by rfl 38 _ rfl [] rfl _ (build_0 _) ?_)
        | (refine wpList_store_row rfl _ _ _ rfl X (recCells {}) rfl rfl 38 _ HX4.out hi0 rfl hone ?_; rw [HXE.out])
        | fail)
      refine bodyPost_ret (rr_results HX4.out _ rfl rfl) rfl ?_
      rw [HA.out]
      exact ⟨{}, rfl, RecFrom.nil _ _, HN4.out⟩
    | some q =>
      have HAQ : Aside (a = if q < t.size ∨ mayRB D = false then ({}, 15) else (D, 0)) := by
        have := readF_some H1.out HW.out (q := q) (by rw [← HV.out, ← HD.out])
        rw [← HV.out, ← HD.out] at this
        rw [Aside, HAF.out, this]
      obtain ⟨hq, hr⟩ := HR4.out
      have c1 := hr.bad
      have c0 := hr.rest
      obtain ⟨r, hrr⟩ : ∃ r, r = t.extract q t.size := ⟨_, rfl⟩
      rw [← hrr] at c0
      have hsz : r.size = t.size - q := by rw [hrr]; simp
      clear hr hrr
      by_cases hqs : q < t.size
      case pos =>
        have HA : Aside (a = ({}, 15)) := by rw [Aside, HAQ.out, if_pos (.inl hqs)]
        have e0 : 0 < r.size := by omega
        have e1 : (0 : Int) < r.size := by omega
        clear hqs hsz hq
        have HXE : Aside (w4.setRow X (recCells {}) = w4) := HX4.out.setSame
        have hi0 : (Tryz.prog.info? 38).map (·.size) = some (recCells {}).size := by rw [recCells_size]; kernel_rfl
        have hone : (recCells {}).all (·.oneCell') = true := recCells_one _ rfl rfl rfl
        go_wp2_with (first
          | (refine wpList_build_by rfl 38 _ rfl [] rfl _ (build_0 _) ?_)
          | (refine wpList_store_row rfl _ _ _ rfl X (recCells {}) rfl rfl 38 _ HX4.out hi0 rfl hone ?_; rw [HXE.out])
          | fail)
        refine bodyPost_ret (rr_results HX4.out _ rfl rfl) rfl ?_
        rw [HA.out]
        exact ⟨{}, rfl, RecFrom.nil _ _, HN4.out⟩
      have e0 : decide (0 < r.size) = false := decide_eq_false (by omega)
      have HQS := aside hqs
      have HOK : Aside (D.kind = v ∧ D.dig.length = 32 ∧ D.barred.length + D.lots.length + D.owners.length ≤ 1099511627776) := by
        have := bodyW_ok t v HVB.out (some 1)
        rw [← HD.out] at this
        exact this
      clear hqs hsz hq
      have hi0 : (Tryz.prog.info? 38).map (·.size) = some (recCells rv).size := by rw [recCells_size]; kernel_rfl
      go_upto_region 10 with fail
      go_wp2_with (first
        | (refine wpList_load_row_w rfl _ _ rfl Y rfl _ (recCells rv) (0, 0) _ HY4.out Tryz.underlying38 rfl hi0 ?_)
        | fail)
      refine (rmay_any rv D (by rw [HOK.out.1]; exact HVB.out) HOK.out.2.1 HOK.out.2.2 w4 HV4.out.at_).mono ?_
      rintro e w5 ⟨rfl, hb5⟩
      have HX5 : Aside (RecIn w5 X {}) := HX4.out.new hb5
      have HY5 : Aside (RecIn w5 Y rv) := HY4.out.new hb5
      have HN5 : Aside (Below w.heap.size w w5) := new_trans HN4.out hb5
      have HV5 : Aside (RecFrom w2.heap.size w5 rv D) := HV4.out.on hb5
      clear hb5 c0 c1 e0
      obtain ⟨M, hM⟩ : ∃ M, M = mayRB D := ⟨_, rfl⟩
      rw [← hM]
      cases M with
      | false =>
        have HA : Aside (a = ({}, 15)) := by rw [Aside, HAQ.out, if_pos (.inr hM.symm)]
        clear hM hi0
        have HXE : Aside (w5.setRow X (recCells {}) = w5) := HX5.out.setSame
        have hi0 : (Tryz.prog.info? 38).map (·.size) = some (recCells {}).size := by rw [recCells_size]; kernel_rfl
        have hone : (recCells {}).all (·.oneCell') = true := recCells_one _ rfl rfl rfl
        go_wp2_with (first
          | (refine wpList_build_by rfl 38 _ rfl [] rfl _ (build_0 _) ?_)
          | (refine wpList_store_row rfl _ _ _ rfl X (recCells {}) rfl rfl 38 _ HX5.out hi0 rfl hone ?_; rw [HXE.out])
          | fail)
        refine bodyPost_ret (rr_results HX5.out _ rfl rfl) rfl ?_
        rw [HA.out]
        exact ⟨{}, rfl, RecFrom.nil _ _, HN5.out⟩
      | true =>
        have HA : Aside (a = (D, 0)) := by rw [Aside, HAQ.out, if_neg (by rw [← hM]; simp; exact Nat.le_of_not_lt HQS.out)]
        clear hM
        have hone : (recCells rv).all (·.oneCell') = true := HV5.out.one
        obtain ⟨wf, hwf⟩ : ∃ z, z = w5.setRow X (recCells rv) := ⟨_, rfl⟩
        have HNF : Aside (Below w.heap.size w wf) := by rw [hwf]; exact new_of_keeps HN5.out (keeps_setRow (K := (· ≠ X)) w5 X _ (fun h => h rfl)) HXW.out
        have HXF : Aside (RecIn wf X rv) := by rw [hwf]; exact HX5.out.setRow _
        have HVF : Aside (RecFrom w.heap.size wf rv D) := by
          rw [hwf]
          have hk : Keeps (· ≠ X) w5 (w5.setRow X (recCells rv)) := keeps_setRow w5 X _ (fun h => h rfl)
          exact (HV5.out.keeps hk (fun k h1 h2 => by have := HBX.out; omega)).mono HN2.out.size
        have HWF := aside hwf
        clear hwf
        go_wp2_with (first
          | (refine wpList_load_row rfl _ _ rfl Y rfl _ (recCells rv) (0, 0) _ HY5.out Tryz.underlying38 rfl hi0 ?_)
          | (refine wpList_store_row rfl _ _ _ rfl X (recCells rv) rfl rfl 38 _ HX5.out hi0 rfl hone ?_; rw [← HWF.out])
          | fail)
        refine bodyPost_ret (rr_results HXF.out _ rfl rfl) rfl ?_
        rw [HA.out]
        exact ⟨rv, rfl, HVF.out, HNF.out⟩
end Go.Proofs.YtkpmcjfolncmmaaGreatDoor
