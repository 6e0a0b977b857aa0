/- consignlaw30.ChainCut answers true: of any row of drafts and any two numbers. -/
import Derived.Test.YtkpmcjfolncmmaaDoorMBak1
import Derived.Test.YtkpmcjfolncmmaaDoorMEnt1
import Derived.Deep.RegionHeld3
import Derived.Deep.DeepCutAuto
set_option linter.all false
namespace Go.Proofs.YtkpmcjfolncmmaaDoor
open Go.RowKit

set_option maxHeartbeats 2000000 in
set_option maxRecDepth 100000 in
theorem cut_any (v : Value) (n : Nat) (hn : n ≤ 9223372036854775807) (z0 z1 : Int) (hz0 : 0 ≤ z0 ∧ z0 ≤ 65535) (hz1 : 0 ≤ z1 ∧ z1 ≤ 65535) (F : S8) (K : Nat → Int) (kk : Array Value) (w : World) (ht : Tabs F K kk w) (h1 : DraftsAt w v n) :
    Calls Tryd.prog 3 #[v, .agg #[.int .u16 z0, .int .u16 z1]] w fun e w' => e = .returned (.bool true) ∧ Below w.heap.size w w' := by
  have HT := aside ht
  have HD1 := aside h1
  obtain ⟨P, hP⟩ : ∃ x, x = w.heap.size := ⟨_, rfl⟩
  obtain ⟨w0, hw0⟩ : ∃ z, z = w.alloc (.cells #[.int .u16 z0, .int .u16 z1] 24) := ⟨_, rfl⟩
  have hb0 : Below w.heap.size w w0 := by rw [hw0]; exact new_alloc _ _
  have HB0 := aside hb0
  have HP0 : Aside (w0.heap[P]? = some (.cells #[.int .u16 z0, .int .u16 z1] 24 (0, 0))) := by rw [hw0, hP]; exact heap_new _ _
  clear ht h1 hb0
  go_enter Tryd.func3, Tryd.ntmps3
  go_wp2_with fail
  rw [← hw0, ← hP]
  clear hw0 hP
  refine (works_any F K kk w0 (HT.out.on HB0.out)).mono ?_
  rintro e w1 ⟨rfl, hb1⟩
  have HP1 := aside (whole_new HP0.out hb1)
  have HB1 := aside (new_trans HB0.out hb1)
  clear hb1 HP0
  go_wp2_with fail
  refine (records_any v n hn w1 (HD1.out.on HB1.out)).mono ?_
  rintro e w2 ⟨x1, rs, rfl, hr1, hm1, hl1, hb2⟩
  have HR1 : Aside (RecsAt w2 x1 rs) := hr1.at_
  obtain ⟨av, cv, rfl⟩ := hr1.slice
  have HM1 := aside hm1
  have HL1 := aside hl1
  have HP2 := aside (whole_new HP1.out hb2)
  have HB2 := aside (new_trans HB1.out hb2)
  clear hr1 hm1 hl1 hb2 HP1
  go_wp2_with fail
  refine (log_any (.slice av rs.length cv) rs (by have := HL1.out; omega) HM1.out F K kk w2 (HT.out.sha.on HB2.out) HR1.out).mono ?_
  rintro e w3 ⟨rfl, hb3, ha3⟩
  obtain ⟨A, hA⟩ : ∃ x, x = w2.heap.size := ⟨_, rfl⟩
  rw [← hA] at ha3 ⊢
  have HA3 := aside ha3
  have HR3 := aside (HR1.out.on hb3)
  have HP3 := aside (whole_new HP2.out hb3)
  have HB3 := aside (new_trans HB2.out hb3)
  clear ha3 hb3 hA HR1 HP2
  obtain ⟨m, hm⟩ : ∃ m, m = rs.length := ⟨_, rfl⟩
  have hm12 : m ≤ 12 := by rw [hm]; exact HL1.out
  rw [← hm] at HA3 ⊢
  have HM := aside hm
  clear hm
  by_cases hm0 : m = 0
  · have e0 : ((m : Int) == 0) = true := by simpa using hm0
    clear hm0
    go_wp2_with fail
    go_ret
    exact ⟨rfl, HB3.out⟩
  have e0 : ((m : Int) == 0) = false := by simpa using hm0
  obtain ⟨z, hz⟩ : ∃ z : Nat, z0 = z := ⟨z0.toNat, by omega⟩
  subst hz
  obtain ⟨k, hk⟩ : ∃ k, k = z % m := ⟨_, rfl⟩
  have hkm : k < m := by rw [hk]; exact Nat.mod_lt _ (by omega)
  have hrem : (z : Int).tmod (m : Int) = (k : Int) := by rw [hk]; rfl
  have hz2 : ¬ (m : Int) = 0 := by omega
  have c0 : w3.cell? ⟨P, 0, none⟩ = some (.int .u16 z) := cell_whole HP3.out 0
  have HKM := aside hkm
  clear hk
  obtain ⟨t, ht⟩ : ∃ x, x = textF (sumB K F) zero32 rs := ⟨_, rfl⟩
  have HTX := aside ht
  rw [← ht] at HA3
  have hts : t.size ≤ 3000 := by
    have := text_le (sumB_size K F) rs zero32 HM1.out
    have := HL1.out
    rw [ht]
    omega
  have HTS := aside hts
  clear ht hts hm0
  go_wp2_with fail
  refine (text_log A t _ _ w3 HA3.out).mono ?_
  rintro e w4 ⟨rfl, rfl⟩
  go_wp2_with fail
  refine (entry_any (sumB_size K F) rs HM1.out (by have := HL1.out; omega) k (by rw [← HM.out]; exact HKM.out) t HTX.out w3).mono ?_
  rintro e w4 ⟨rfl, hb4⟩
  have hfit : atF (sumB K F) rs k + 34 + lenF rs k ≤ t.size := by rw [HTX.out]; exact at_fits (sumB_size K F) rs k (by rw [← HM.out]; exact HKM.out)
  obtain ⟨p, hp⟩ : ∃ p, p = atF (sumB K F) rs k := ⟨_, rfl⟩
  obtain ⟨l, hl⟩ : ∃ l, l = lenF rs k := ⟨_, rfl⟩
  rw [← hp, ← hl] at hfit ⊢
  have HPA := aside hp
  have HLL := aside hl
  have HA4 := aside (HA3.out.on hb4)
  have HR4 := aside (HR3.out.on hb4)
  have HP4 := aside (whole_new HP3.out hb4)
  have HB4 := aside (new_trans HB3.out hb4)
  have HFIT := aside hfit
  clear hb4 hp hl HA3 HR3 HP3 c0 hrem hz2 e0 hkm
  go_wp2_with fail
  refine (text_log A t _ _ w4 HA4.out).mono ?_
  rintro e w5 ⟨rfl, rfl⟩
  have hts := HTS.out
  have hfit := HFIT.out
  have hgt : ¬ (t.size : Int) < (p : Int) + 34 + l := by omega
  have w1 : wrap64 ((p : Int) + 34) = p + 34 := tick_id _ (by omega)
  have w2 : wrap64 ((p : Int) + 34 + l) = p + 34 + l := tick_id _ (by omega)
  go_wp2_with fail
  refine (text_log A t _ _ w4 HA4.out).mono ?_
  rintro e w5 ⟨rfl, rfl⟩
  have hpt : (p : Int) ≤ t.size := by omega
  go_wp2_with fail
  have e5 : parseF (sumB K F) (t.extract 0 p) = (rs.take k, 0, 0) := by
    rw [HTX.out, HPA.out, cut_between rs k (by rw [← HM.out]; exact HKM.out)]
    exact parse_log (sumB_size K F) (rs.take k) (HM1.out.take k)
  refine (parse_any (t.extract 0 p) (by rw [ByteArray.size_extract]; omega) F K kk w4 (HT.out.sha.on HB4.out)).mono ?_
  rintro e w5 ⟨hb5, hp5⟩
  rw [e5, if_pos rfl] at hp5
  obtain ⟨x6, rfl, hr6⟩ := hp5
  have HR6 : Aside (RecsAt w5 x6 (rs.take k)) := hr6.at_
  have HR5 := HR4.out.on hb5
  have HRT : Aside (RecsAt w5 (.slice av k cv) (rs.take k)) := HR5.take k (by rw [← HM.out]; exact Nat.le_of_lt HKM.out) rfl
  obtain ⟨lb, lo, hav⟩ : ∃ lb lo, av = some ⟨lb, lo, none⟩ := by
    obtain ⟨a', cap', rvs, e', hc, h1, h2⟩ := HR5
    obtain ⟨rfl, _, rfl⟩ := Value.slice.inj e'
    obtain ⟨lb, lo, e, _⟩ := h1 (by have := HKM.out; rw [← HM.out]; omega)
    exact ⟨lb, lo, e⟩
  subst hav
  have HMC : Aside (rs.length ≤ cv) := by
    obtain ⟨a', cap', rvs, e', hc, h1, h2⟩ := HR5
    obtain ⟨_, _, rfl⟩ := Value.slice.inj e'
    exact hc
  have HA5 := aside (HA4.out.on hb5)
  have HP5 := aside (whole_new HP4.out hb5)
  have HB5 := aside (new_trans HB4.out hb5)
  clear hb5 hr6 e5 HR5 HR4 HA4 HP4 hgt hpt w1 w2
  obtain ⟨u, hu⟩ : ∃ u : Nat, z1 = u := ⟨z1.toNat, by omega⟩
  subst hu
  obtain ⟨r, hr⟩ : ∃ r, r = u % (33 + l) := ⟨_, rfl⟩
  have hrl : r < 33 + l := by rw [hr]; exact Nat.mod_lt _ (by omega)
  have hrem : (u : Int).tmod (33 + (l : Int)) = (r : Int) := by rw [hr]; rfl
  have hw33 : IntKind.i64.wrap (33 + (l : Int)) = 33 + l := IntWalk.i64_in _ (by omega)
  have hw1 : IntKind.i64.wrap ((p : Int) + 1) = p + 1 := IntWalk.i64_in _ (by omega)
  have hw2 : IntKind.i64.wrap ((p : Int) + 1 + r) = p + 1 + r := IntWalk.i64_in _ (by omega)
  have hwu : IntKind.i64.wrap (u : Int) = u := IntWalk.i64_in _ (by omega)
  have hz1 : ((33 + (l : Int)) == 0) = false := by rw [beq_eq_false_iff_ne]; omega
  have hz2 : ¬ (33 + (l : Int)) = 0 := by omega
  have hn : ((p : Int) + 1 + r).toNat = p + (1 + r) := by omega
  have hsl : (p : Int) + 1 + r ≤ t.size := by omega
  have hs0 : (0 : Int) ≤ (p : Int) + 1 + r := by omega
  have hkm : (k : Int) ≤ m := by have := HKM.out; omega
  have hkc : (k : Int) ≤ cv := by have := HKM.out; have := HMC.out; have := HM.out; omega
  have c1 : w5.cell? ⟨P, 1, none⟩ = some (.int .u16 u) := cell_whole HP5.out 1
  have HRL := aside hrl
  clear hr hrl
  go_upto_region 14 with fail
  go_region_held3 (fun W => W.cell? ⟨P, 1, none⟩ = some (.int .u16 u)) (first | exact c1 | exact cell_whole HP6.out 1 | exact cell_whole HP7.out 1) (first
    | (go_at_call 13
       refine (samerecs_any _ _ (rs.take k) (rs.take k) ?_ ?_ ?_ ?_ _ ?_ ?_).mono ?_
       · rw [List.length_take]; have := HL1.out; omega
       · rw [List.length_take]; have := HL1.out; omega
       · exact fun d h => (HM1.out.take k d h).2
       · exact fun d h => (HM1.out.take k d h).2
       · exact HR6.out.on (new_drew _)
       · exact HRT.out.on (new_drew _)
       rintro e w6 ⟨rfl, hb6⟩
       rw [decide_eq_true rfl]
       have hb6' := new_trans (new_drew w5) hb6
       have HP6 := aside (whole_new HP5.out hb6')
       have HA6 := aside (HA5.out.on hb6')
       have HB6 := aside (new_trans HB5.out hb6')
       clear hb6 hb6')
    | (go_at_call 11
       refine (text_log A t _ _ _ HA6.out).mono ?_
       rintro e w7 ⟨rfl, rfl⟩)
    | (go_at_call 14
       refine (wrong_yes (t.extract 0 (p + (1 + r))) ?_ 14 k F K kk w6 ?_ ?_ ?_).mono ?_
       · rw [ByteArray.size_extract]; omega
       · exact HT.out.on HB6.out
       · rw [HTX.out, HPA.out]; exact cut_within (sumB_size K F) rs HM1.out k (by rw [← HM.out]; exact HKM.out) r (by rw [← HLL.out]; exact HRL.out)
       · decide
       rintro e w7 ⟨rfl, hb7⟩
       have HP7 := aside (whole_new HP6.out hb7)
       have HB7 := aside (new_trans HB6.out hb7)
       clear hb7))
  go_wp2_with fail
  go_ret
  exact ⟨rfl, HB7.out⟩

end Go.Proofs.YtkpmcjfolncmmaaDoor
