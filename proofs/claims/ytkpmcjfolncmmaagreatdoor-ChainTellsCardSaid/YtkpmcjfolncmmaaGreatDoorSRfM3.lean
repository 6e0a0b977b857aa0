/- The document's May, walked: of a record whose kind is one. Printed by wip/gen/refm3.py. -/
import Derived.Test.YtkpmcjfolncmmaaGreatDoorSRfR0
import Derived.Test.YtkpmcjfolncmmaaGreatDoorSSame2
import Derived.Test.YtkpmcjfolncmmaaGreatDoorSRef7
import Derived.BigQuiet
set_option linter.all false
namespace Go.Proofs.YtkpmcjfolncmmaaGreatDoor
open Go.RowKit
theorem rangeRec {W : World} {L : Nat} {r : RecV} (h : RecIn W L r) : W.rangeAt L 0 (recCells r).toList := by
  intro j v hv
  rw [Nat.zero_add, h.cell j]
  simpa using hv
set_option maxHeartbeats 4000000 in
set_option maxRecDepth 100000 in
theorem rmay_any (rv : RecV) (d : RecD) (hk : 1 ≤ d.kind ∧ d.kind ≤ 6) (hdg : d.dig.length = 32) (hrows : d.barred.length + d.lots.length + d.owners.length ≤ 1099511627776) (w : World) (h : RecAt w rv d) :
    Calls Tryz.prog 19 #[.agg (recCells rv)] w fun e w' => e = .returned (.bool (mayRB d)) ∧ Below w.heap.size w w' := by
  obtain ⟨L, hL⟩ : ∃ x, x = w.heap.size := ⟨_, rfl⟩
  obtain ⟨w0, hw0⟩ : ∃ z, z = w.alloc (.cells (recCells rv) 38) := ⟨_, rfl⟩
  have HN0 : Aside (Below w.heap.size w w0) := by rw [hw0]; exact new_alloc _ _
  have HR0 : Aside (RecIn w0 L rv) := by rw [hw0, hL]; exact RecIn.box _ _
  have HRA : Aside (RecAt w0 rv d) := h.on HN0.out
  have HRV : Aside (∃ b l o, rv = d.toV b l o ∧ RowI w b d.barred) := by
    obtain ⟨b, l, o, e, hb, _, _⟩ := h
    exact ⟨b, l, o, e, hb⟩
  have HLL : Aside (w.heap.size ≤ L) := by rw [hL]; exact Nat.le_refl _
  have HRS := aside hrows
  have HDG := aside hdg
  have HKB := aside hk
  obtain ⟨S, hS⟩ : ∃ S : Bool, S = mayRB d := ⟨_, rfl⟩
  have HSB := aside hS
  rw [← hS]
  obtain ⟨cp, hcp⟩ : ∃ cp, cp = (recCells rv).toList := ⟨_, rfl⟩
  have HCP : Aside (cp.toArray = recCells rv) := by rw [Aside, hcp, Array.toArray_toList]
  have hi1 : (Tryz.prog.info? 38).map (·.size) = some cp.length := by rw [hcp, Array.length_toList, recCells_size]; kernel_rfl
  have HCR : Aside (∀ W, RecIn W L rv → W.rangeAt L 0 cp) := by rw [hcp]; exact fun W hW => rangeRec hW
  obtain ⟨k, hkk⟩ : ∃ k, k = d.kind := ⟨_, rfl⟩
  rw [← hkk] at hk
  have HKK := aside hkk
  have HRK : Aside (rv.kind = k) := by obtain ⟨b, l, o, e, _⟩ := h; rw [Aside, hkk, e]; rfl
  have e1 : decide (k < 1) = false := by simp; omega
  have e6 : decide (6 < k) = false := by simp; omega
  clear hS h hrows hdg hcp hk hkk
  go_enter Tryz.func19, Tryz.ntmps19
  go_upto_region 1 with fail
  rw [← hw0, ← hL]
  clear hw0 hL
  have HRD : Aside (RecIn w0.drew L rv) := HR0.out.drew
  refine wp_region_held_drew (S := fun W => RecIn W L rv) (by kernel_rfl) HRD.out (fun hHeld => ?_)
  refine wpAnyH_take (i := 0) (oi := _) (v := .pointer (some ⟨L, 0, none⟩)) rfl (by kernel_rfl) (by kernel_rfl) (by kernel_rfl) (fun _ _ _ h => h) (Or.inl ⟨by rfl, ?_⟩) hHeld ?_
  · intro W hSw
    go_simp
  try simp only [Act.put, ps]
  refine wpAnyH_take (i := 1) (oi := _) (v := .int .i64 k) rfl (by kernel_rfl) (by kernel_rfl) (by kernel_rfl) (fun _ _ _ h => h) (Or.inl ⟨by rfl, ?_⟩) hHeld ?_
  · intro W hSw
    have c : W.cell? ⟨L, 0, none⟩ = some (.int .i64 k) := by rw [← HRK.out]; exact hSw.kind
    go_simp
  try simp only [Act.put, ps]
  refine wpAnyH_take (i := 2) (oi := _) (v := .bool false) rfl (by kernel_rfl) (by kernel_rfl) (by kernel_rfl) (fun _ _ _ h => h) (Or.inl ⟨by rfl, ?_⟩) hHeld ?_
  · intro W hSw
    go_simp
  try simp only [Act.put, ps]
  refine wpAnyH_take (i := 3) (oi := _) (v := .bool false) rfl (by kernel_rfl) (by kernel_rfl) (by kernel_rfl) (fun _ _ _ h => h) (Or.inl ⟨by rfl, ?_⟩) hHeld ?_
  · intro W hSw
    go_simp
  try simp only [Act.put, ps]
  refine wpAnyH_take (i := 4) (oi := _) (v := .pointer (some ⟨L, 0, none⟩)) rfl (by kernel_rfl) (by kernel_rfl) (by kernel_rfl) (fun _ _ _ h => h) (Or.inl ⟨by rfl, ?_⟩) hHeld ?_
  · intro W hSw
    go_simp
  try simp only [Act.put, ps]
  refine wpAnyH_take (i := 5) (oi := _) (v := .int .i64 k) rfl (by kernel_rfl) (by kernel_rfl) (by kernel_rfl) (fun _ _ _ h => h) (Or.inl ⟨by rfl, ?_⟩) hHeld ?_
  · intro W hSw
    have c : W.cell? ⟨L, 0, none⟩ = some (.int .i64 k) := by rw [← HRK.out]; exact hSw.kind
    go_simp
  try simp only [Act.put, ps]
  refine wpAnyH_take (i := 6) (oi := _) (v := .bool false) rfl (by kernel_rfl) (by kernel_rfl) (by kernel_rfl) (fun _ _ _ h => h) (Or.inl ⟨by rfl, ?_⟩) hHeld ?_
  · intro W hSw
    go_simp
  try simp only [Act.put, ps]
  refine wpAnyH_take (i := 7) (oi := _) (v := .bool false) rfl (by kernel_rfl) (by kernel_rfl) (by kernel_rfl) (fun _ _ _ h => h) (Or.inl ⟨by rfl, ?_⟩) hHeld ?_
  · intro W hSw
    go_simp
  try simp only [Act.put, ps]
  refine wpAnyH_take (i := 8) (oi := _) (v := .bool false) rfl (by kernel_rfl) (by kernel_rfl) (by kernel_rfl) (fun _ _ _ h => h) (Or.inl ⟨by rfl, ?_⟩) hHeld ?_
  · intro W hSw
    go_simp
  try simp only [Act.put, ps]
  refine wpAnyH_take (i := 9) (oi := _) (v := .agg cp.toArray) rfl (by kernel_rfl) (by kernel_rfl) (by kernel_rfl) (fun _ _ _ h => h) (yieldsIf_load_mid (by rfl) 38 (.tmp 1) rfl L 0 rfl cp _ (fun W hW => HCR.out W hW) Tryz.underlying38 rfl hi1) hHeld ?_
  try simp only [Act.put, ps]
  refine wpAnyH_take (i := 10) (oi := _) (v := .agg cp.toArray) rfl (by kernel_rfl) (by kernel_rfl) (by kernel_rfl) (fun _ _ _ h => h) (yieldsIf_load_mid (by rfl) 38 (.tmp 1) rfl L 0 rfl cp _ (fun W hW => HCR.out W hW) Tryz.underlying38 rfl hi1) hHeld ?_
  try simp only [Act.put, ps]
  rw [HCP.out]
  refine wpAnyH_ready (rs := [11]) (by kernel_rfl) (by simp) ?_
  refine AllReadyH.cons (o := _) rfl (fun K hK => ?_) AllReadyH.nil
  go_simp
  refine (bare_any rv d HKB.out _ (HRA.out.on (new_drew _))).mono ?_
  rintro ev w3 ⟨r3, rfl, hf3, hb3⟩
  have HB3 : Aside (Below w.heap.size w w3) := new_trans HN0.out (new_trans (new_drew _) (hb3.mono (by simp)))
  have HD3 : Aside (Below w0.heap.size w0 w3) := (new_drew w0).trans (hb3.mono (by simp))
  have HF3 : Aside (RecAt w3 r3 (bareD d)) := hf3
  have HA3 : Aside (RecAt w3 rv d) := HRA.out.on HD3.out
  have HR3 : Aside (RecIn w3 L rv) := HR0.out.new HD3.out
  clear hb3 hf3
  refine hK.out _ _ HR3.out (fun hHeld => ?_)
  clear hK K
  try simp only [Act.put, ps]
  refine wpAnyH_ready (rs := [12]) (by kernel_rfl) (by simp) ?_
  refine AllReadyH.cons (o := _) rfl (fun K hK => ?_) AllReadyH.nil
  go_simp
  refine (same_any rv r3 d (bareD d) HDG.out (bareD_len d HDG.out) HRS.out (bareD_rows d _ HRS.out) _ HA3.out HF3.out).mono ?_
  rintro ev w4 ⟨rfl, hb4⟩
  have HB4 : Aside (Below w.heap.size w w4) := new_trans HB3.out hb4
  have HD4 : Aside (Below w0.heap.size w0 w4) := HD3.out.trans (hb4.mono HD3.out.size)
  have HR4 : Aside (RecIn w4 L rv) := HR0.out.new HD4.out
  have HA4 : Aside (RecAt w4 rv d) := HRA.out.on HD4.out
  clear hb4
  refine hK.out _ _ HR4.out (fun hHeld => ?_)
  clear hK K
  by_cases hde : d = bareD d
  case neg =>
    have HF : Aside (S = false) := by rw [Aside, HSB.out, mayRB, decide_eq_false hde]; rfl
    rw [decide_eq_false hde]
    clear hde
    try simp only [Act.put, ps]
    refine wpAnyH_take (i := 13) (oi := _) (v := .bool true) rfl (by kernel_rfl) (by kernel_rfl) (by kernel_rfl) (fun _ _ _ h => h) (Or.inl ⟨by rfl, ?_⟩) hHeld ?_
    · intro W hSw
      go_simp
    try simp only [Act.put, ps]
    refine wpAnyH_take (i := 14) (oi := _) (v := .bool true) rfl (by kernel_rfl) (by kernel_rfl) (by kernel_rfl) (fun _ _ _ h => h) (Or.inl ⟨by rfl, ?_⟩) hHeld ?_
    · intro W hSw
      go_simp
    try simp only [Act.put, ps]
    refine wpAnyH_done (by kernel_rfl) ?_ _
    go_wp2_with fail
    go_ret
    exact ⟨by rw [HF.out]; rfl, HB4.out⟩
  have HS1 : Aside (S = if d.kind = 1 then sceneRB d else restRB d) := by rw [Aside, HSB.out, mayRB, decide_eq_true hde]; rfl
  rw [decide_eq_true hde]
  clear hde
  try simp only [Act.put, ps]
  refine wpAnyH_take (i := 13) (oi := _) (v := .bool false) rfl (by kernel_rfl) (by kernel_rfl) (by kernel_rfl) (fun _ _ _ h => h) (Or.inl ⟨by rfl, ?_⟩) hHeld ?_
  · intro W hSw
    go_simp
  try simp only [Act.put, ps]
  refine wpAnyH_take (i := 14) (oi := _) (v := .bool false) rfl (by kernel_rfl) (by kernel_rfl) (by kernel_rfl) (fun _ _ _ h => h) (Or.inl ⟨by rfl, ?_⟩) hHeld ?_
  · intro W hSw
    go_simp
  try simp only [Act.put, ps]
  refine wpAnyH_done (by kernel_rfl) ?_ _
  have c0 : w4.cell? ⟨L, 0, none⟩ = some (.int .i64 k) := by rw [← HRK.out]; exact HR4.out.kind
  clear hi1 e1 e6
  by_cases hk1 : k = 1
  case pos =>
    have HF : Aside (S = sceneRB d) := by rw [Aside, HS1.out, if_pos (by rw [← HKK.out]; exact hk1)]
    subst hk1
    have hi0 : (Tryz.prog.info? 38).map (·.size) = some (recCells rv).size := by rw [recCells_size]; kernel_rfl
    go_wp2_with (first
      | (refine wpList_load_row rfl _ _ rfl L rfl _ (recCells rv) (0, 0) _ HR4.out Tryz.underlying38 rfl hi0 ?_)
      | fail)
    refine (rscene_any rv d HRS.out _ HA4.out).mono ?_
    rintro ev w5 ⟨rfl, hb5⟩
    have HB5 : Aside (Below w.heap.size w w5) := new_trans HB4.out hb5
    clear hb5
    go_wp2_with fail
    go_ret
    exact ⟨by rw [HF.out]; rfl, HB5.out⟩
  have HS2 : Aside (S = restRB d) := by rw [Aside, HS1.out, if_neg (by rw [← HKK.out]; exact hk1)]
  have e1 : (k == 1) = false := by simpa using hk1
  clear hk1
  obtain ⟨bv, lv, ov, hrv, hbv⟩ := HRV.out
  have HBV : Aside (RowI w4 bv d.barred) := hbv.on HB4.out
  clear hbv
  subst hrv
  obtain ⟨nb, hnb⟩ : ∃ n, n = d.barred.length := ⟨_, rfl⟩
  have HNB := aside hnb
  have hnb40 : nb ≤ 1099511627776 := by have := HRS.out; omega
  have c4 : w4.cell? ⟨L, 4, none⟩ = some (.int .i64 d.tick) := HR4.out.tick
  have c1 : w4.cell? ⟨L, 1, none⟩ = some (.int .i64 d.round) := HR4.out.round
  have c2 : w4.cell? ⟨L, 2, none⟩ = some (.int .i64 d.lot) := HR4.out.lot
  have c3 : w4.cell? ⟨L, 3, none⟩ = some (.int .i64 d.carrier) := HR4.out.carrier
  have c38 : w4.cell? ⟨L, 38, none⟩ = some (.int .u64 d.bid) := HR4.out.bid
  clear hnb
  by_cases ht : 0 ≤ d.tick
  case neg =>
    have HF : Aside (S = false) := by rw [Aside, HS2.out, restRB, decide_eq_false ht]; rfl
    have et : decide (d.tick < 0) = true := by simp; omega
    clear ht
    go_wp2_with fail
    go_ret
    exact ⟨by rw [HF.out]; rfl, HB4.out⟩
  have HT : Aside (decide (0 ≤ d.tick) = true) := decide_eq_true ht
  have et : decide (d.tick < 0) = false := by simp; omega
  clear ht
  go_wp2_with fail
  refine (rwithin_any d.round 0 15 _).mono ?_
  rintro e wq ⟨rfl, hwq⟩
  rw [hwq]
  clear hwq wq
  obtain ⟨B7, hB7⟩ : ∃ B : Bool, B = withinB d.round 0 15 := ⟨_, rfl⟩
  rw [← hB7]
  cases B7 with
  | false =>
    have HF : Aside (S = false) := by rw [Aside, HS2.out, restRB, ← hB7]; simp
    clear hB7
    go_wp2_with fail
    go_ret
    exact ⟨by rw [HF.out]; rfl, HB4.out⟩
  | true =>
    have HB7 : Aside (withinB d.round 0 15 = true) := hB7.symm
    clear hB7
    go_wp2_with fail
    refine (rwithin_any d.lot 0 15 _).mono ?_
    rintro e wq ⟨rfl, hwq⟩
    rw [hwq]
    clear hwq wq
    obtain ⟨B8, hB8⟩ : ∃ B : Bool, B = withinB d.lot 0 15 := ⟨_, rfl⟩
    rw [← hB8]
    cases B8 with
    | false =>
      have HF : Aside (S = false) := by rw [Aside, HS2.out, restRB, ← hB8]; simp
      clear hB8
      go_wp2_with fail
      go_ret
      exact ⟨by rw [HF.out]; rfl, HB4.out⟩
    | true =>
      have HB8 : Aside (withinB d.lot 0 15 = true) := hB8.symm
      clear hB8
      go_wp2_with fail
      refine (rwithin_any d.carrier 0 7 _).mono ?_
      rintro e wq ⟨rfl, hwq⟩
      rw [hwq]
      clear hwq wq
      obtain ⟨B9, hB9⟩ : ∃ B : Bool, B = withinB d.carrier 0 7 := ⟨_, rfl⟩
      rw [← hB9]
      cases B9 with
      | false =>
        have HF : Aside (S = false) := by rw [Aside, HS2.out, restRB, ← hB9]; simp
        clear hB9
        go_wp2_with fail
        go_ret
        exact ⟨by rw [HF.out]; rfl, HB4.out⟩
      | true =>
        have HB9 : Aside (withinB d.carrier 0 7 = true) := hB9.symm
        clear hB9
        by_cases hbd : d.bid ≤ 4294967296
        case neg =>
          have HF : Aside (S = false) := by rw [Aside, HS2.out, restRB, decide_eq_false hbd]; simp
          have eb : decide ((4294967296 : Int) < d.bid) = true := by simp; omega
          clear hbd
          go_wp2_with fail
          go_ret
          exact ⟨by rw [HF.out]; rfl, HB4.out⟩
        have HBD : Aside (decide (d.bid ≤ 4294967296) = true) := decide_eq_true hbd
        have eb : decide ((4294967296 : Int) < d.bid) = false := by simp; omega
        clear hbd
        have HS3 : Aside (S = (allTo (riseAt d.barred) nb && (decide (k ≠ 5) || toldB d.state d.winner d.price))) := by
          rw [Aside, HS2.out, restRB, HT.out, HB7.out, HB8.out, HB9.out, HBD.out, HNB.out, HKK.out]; rfl
        have H0 : Aside (allTo (riseAt d.barred) 0 = true) := rfl
        go_wp2_with fail
        clear et eb e1 c0 c1 c2 c3 c4 c38
        go_loopg [3] nb (fun gk v3 wr => ∃ k : Nat, k ≤ nb ∧ v3 = .int .i64 k ∧ nb - k ≤ gk ∧ Aside (allTo (riseAt d.barred) k = true) ∧ Aside (Below w4.heap.size w4 wr))
        case atStart => exact ⟨0, by omega, rfl, by omega, H0, Below.refl _ _⟩
        case round =>
          clear H0
          obtain ⟨i, hi, rfl, hgi, HA, HBL⟩ := hrel
          have HX2 : Aside (∀ nq, Below w4.heap.size w4 (wr.drewN nq)) := fun nq => new_trans HBL.out (new_drewN _ _)
          have HRr : Aside (RecIn wr L (d.toV bv lv ov)) := HR4.out.new HBL.out
          have HBr : Aside (RowI wr bv d.barred) := HBV.out.on HBL.out
          have c5 : wr.cell? ⟨L, 5, none⟩ = some bv := HRr.out.barred
          obtain ⟨a', cap', rfl, hcapq, hj0⟩ := HBr.out
          rw [← HNB.out] at c5
          clear hcapq
          by_cases hlt : i < nb
          · have hki : (i : Int) < nb := by omega
            obtain ⟨lb, lo, rfl, hlb, hj⟩ := hj0 (by have := HNB.out; omega)
            clear hj0
            have d0 := hj i (by rw [← HNB.out]; exact hlt)
            obtain ⟨x, hxk⟩ : ∃ x, x = d.barred.getD i 0 := ⟨_, rfl⟩
            rw [← hxk] at d0
            have HXK := aside hxk
            obtain ⟨B1, hB1⟩ : ∃ B : Bool, B = withinB x 0 7 := ⟨_, rfl⟩
            have HBA := aside hB1
            have HC : Aside (∀ W, Calls Tryz.prog 34 #[.int .i64 x, .int .i64 0, .int .i64 7] W fun e w' => e = .returned (.bool B1) ∧ w' = W) := by
              rw [hB1]; exact fun W => rwithin_any x 0 7 W
            clear hxk hB1
            cases B1 with
            | false =>
              have HF : Aside (S = false) := by
                have := allTo_no (riseAt d.barred) i nb hlt (by rw [riseAt, ← HXK.out, ← HBA.out]; rfl)
                rw [Aside, HS3.out, this]; rfl
              clear hj
              go_upto_region 10 with fail
              go_quiet (first | (go_at_call 34; exact Calls.quiet_of_same (HC.out _)))
              have HLAST := aside (new_trans HB4.out (HX2.out nq))
              go_wp2_with fail
              go_ret
              exact ⟨by rw [HF.out]; rfl, HLAST.out⟩
            | true =>
              by_cases hi0 : i = 0
              · have HA2 : Aside (allTo (riseAt d.barred) (i + 1) = true) := by
                  rw [Aside, allTo, HA.out, riseAt, ← HXK.out, ← HBA.out, hi0]; rfl
                subst hi0
                rw [Nat.add_zero] at d0
                clear hj
                go_upto_region 10 with fail
                go_quiet (first | (go_at_call 34; exact Calls.quiet_of_same (HC.out _)))
                go_wp2_with fail
                go_roundg (nb - (0 + 1))
                case measure => omega
                case rel => exact ⟨0 + 1, by omega, rfl, by omega, HA2, HX2.out _⟩
              · have d1 := hj (i - 1) (by have := HNB.out; omega)
                obtain ⟨y, hyk⟩ : ∃ y, y = d.barred.getD (i - 1) 0 := ⟨_, rfl⟩
                rw [← hyk] at d1
                have HYK := aside hyk
                clear hj hyk
                have hic : ((i - 1 : Nat) : Int) = (i : Int) - 1 := by omega
                obtain ⟨j, hji⟩ : ∃ j, i = j + 1 := ⟨i - 1, by omega⟩
                subst hji
                have ej : j + 1 - 1 = j := by omega
                rw [ej] at d1
                clear hic ej hi0
                by_cases hxy : x ≤ y
                · have HF : Aside (S = false) := by
                    have := allTo_no (riseAt d.barred) (j + 1) nb hlt (by rw [riseAt, ← HXK.out, ← HYK.out, decide_eq_false (p := j + 1 = 0) (by omega), decide_eq_false (p := y < x) (by omega)]; simp)
                    rw [Aside, HS3.out, this]; rfl
                  have exy : decide (x ≤ y) = true := decide_eq_true hxy
                  clear hxy
                  go_upto_region 10 with fail
                  go_quiet (first | (go_at_call 34; exact Calls.quiet_of_same (HC.out _)))
                  have HLAST := aside (new_trans HB4.out (HX2.out nq))
                  go_wp2_with fail
                  go_ret
                  exact ⟨by rw [HF.out]; rfl, HLAST.out⟩
                · have HA2 : Aside (allTo (riseAt d.barred) (j + 1 + 1) = true) := by
                    rw [Aside, allTo, HA.out, riseAt, ← HXK.out, ← HBA.out, ← HYK.out, decide_eq_true (p := y < x) (by omega)]; simp
                  have exy : decide (x ≤ y) = false := decide_eq_false hxy
                  clear hxy
                  go_upto_region 10 with fail
                  go_quiet (first | (go_at_call 34; exact Calls.quiet_of_same (HC.out _)))
                  go_wp2_with fail
                  go_roundg (nb - (j + 1 + 1))
                  case measure => omega
                  case rel => exact ⟨j + 1 + 1, by omega, rfl, by omega, HA2, HX2.out _⟩
          · have hki : ¬ (i : Int) < nb := by omega
            have hin : i = nb := by omega
            have HS4 : Aside (S = (decide (k ≠ 5) || toldB d.state d.winner d.price)) := by rw [Aside, HS3.out, ← hin, HA.out]; rfl
            have c0 : wr.cell? ⟨L, 0, none⟩ = some (.int .i64 k) := by rw [← HRK.out]; exact HRr.out.kind
            clear hin hj0 hlt
            by_cases hk5 : k = 5
            · have HF : Aside (S = toldB d.state d.winner d.price) := by rw [Aside, HS4.out, decide_eq_false (p := k ≠ 5) (by omega)]; rfl
              subst hk5
              have c40 : wr.cell? ⟨L, 40, none⟩ = some (.int .i64 d.state) := HRr.out.state
              have c41 : wr.cell? ⟨L, 41, none⟩ = some (.int .i64 d.winner) := HRr.out.winner
              have c42 : wr.cell? ⟨L, 42, none⟩ = some (.int .u64 d.price) := HRr.out.price
              go_wp2_with fail
              refine (routcome_any d.state d.winner d.price wr).mono ?_
              rintro e w6 ⟨rfl, hb6⟩
              have HLAST := aside (new_trans (new_trans HB4.out HBL.out) hb6)
              clear hb6 c0 c40 c41 c42
              go_wp2_with fail
              go_ret
              exact ⟨by rw [HF.out]; rfl, HLAST.out⟩
            · have HF : Aside (S = true) := by rw [Aside, HS4.out, decide_eq_true (p := k ≠ 5) hk5]; rfl
              have e5 : (k != 5) = true := by simpa using hk5
              have HLAST := aside (new_trans HB4.out HBL.out)
              go_wp2_with fail
              go_ret
              exact ⟨by rw [HF.out]; rfl, HLAST.out⟩

        end Go.Proofs.YtkpmcjfolncmmaaGreatDoor
