/- consignlaw30.ChainTells answers true: of any row of drafts, any field, any record. -/
import Derived.Test.YtkpmcjfolncmmaaGreatDoorSTlsA
import Derived.Test.YtkpmcjfolncmmaaGreatDoorSNxr
import Derived.Test.YtkpmcjfolncmmaaGreatDoorSPsx1
import Derived.Test.YtkpmcjfolncmmaaGreatDoorSWrk1
import Derived.Deep.DeepCutAuto
set_option linter.all false
namespace Go.Proofs.YtkpmcjfolncmmaaGreatDoor
open Go.RowKit
set_option maxHeartbeats 2000000 in
set_option maxRecDepth 100000 in
theorem ctells_any (v : Value) (nd : Nat) (hnd : nd ≤ 9223372036854775807) (x0 x1 : Int) (hx0 : -9223372036854775808 ≤ x0 ∧ x0 ≤ 9223372036854775807) (hx1 : -9223372036854775808 ≤ x1 ∧ x1 ≤ 9223372036854775807)
    (d : RecD) (ba la oa : Option Addr) (bn bc ln lc on oc : Nat) (hbl : d.barred.length = bn) (hll : d.lots.length = ln) (hol : d.owners.length = on) (hbn : bn ≤ bc) (hln : ln ≤ lc) (hon : on ≤ oc) (hbc : bc ≤ maxLen) (hlc : lc ≤ maxLen) (hoc : oc ≤ maxLen) (kk : Array Value) (w : World)
    (hb : ∀ B, RowIM (· < w.heap.size) B w (.slice ba bn bc) d.barred) (hl : ∀ B, RowLM (· < w.heap.size) B w (.slice la ln lc) d.lots) (ho : ∀ B, RowIM (· < w.heap.size) B w (.slice oa on oc) d.owners)
    (hok : ∀ (b : List Int) (l : List (Int × Int)) (o : List Int), b.length + l.length + o.length ≤ 1099511627776 → RecD.ok { d with barred := b, lots := l, owners := o }) (ht : Tabs refF refK kk w) (hd : DraftsAt w v nd) :
    Calls Tryz.prog 5 #[v, .agg #[.int .i64 x0, .int .i64 x1], .agg (recCells (d.toV (.slice ba bn bc) (.slice la ln lc) (.slice oa on oc)))] w fun e w' => e = .returned (.bool true) ∧ Below w.heap.size w w' := by
  have HT := aside ht
  have HDA := aside hd
  have HX := aside (And.intro hx0 hx1)
  have HND := aside hnd
  have HBR := aside hb
  have HLR := aside hl
  have HOR := aside ho
  have HOK := aside hok
  obtain ⟨P, hP⟩ : ∃ x, x = w.heap.size := ⟨_, rfl⟩
  obtain ⟨rv, hrv⟩ : ∃ r, r = d.toV (.slice ba bn bc) (.slice la ln lc) (.slice oa on oc) := ⟨_, rfl⟩
  rw [← hrv]
  obtain ⟨w0, hw0⟩ : ∃ z, z = (w.alloc (.cells #[.int .i64 x0, .int .i64 x1] 55)).alloc (.cells (recCells rv) 38) := ⟨_, rfl⟩
  have HB0 : Aside (Below w.heap.size w w0) := by rw [hw0]; exact new_trans (new_alloc _ _) (new_alloc _ _)
  have HP0 : Aside (w0.heap[P]? = some (.cells #[.int .i64 x0, .int .i64 x1] 55 (0, 0))) := by rw [hw0, hP]; exact whole_new (heap_new _ _) (new_alloc _ _)
  have HR0 : Aside (RecIn w0 (P + 1) rv) := by
    rw [hw0, hP, show w.heap.size + 1 = (w.alloc (.cells #[.int .i64 x0, .int .i64 x1] 55)).heap.size by simp]
    exact RecIn.box _ _
  have HRV := aside hrv
  have HPW := aside hP
  have HLL := aside (And.intro hbl (And.intro hll hol))
  clear ht hd hx0 hx1 hnd hb hl ho hok hbl hll hol hrv
  go_enter Tryz.func5, Tryz.ntmps5
  go_upto_region 1 with fail
  rw [← hw0, ← hP]
  clear hw0 hP
  go_wp2_with fail
  refine (works_any refF refK kk w0 (HT.out.on HB0.out)).mono ?_
  rintro e w1 ⟨rfl, hb1⟩
  have HB1 := aside (new_trans HB0.out hb1)
  have HP1 := aside (whole_new HP0.out hb1)
  have HR1 := aside (HR0.out.new hb1)
  clear hb1 HB0 HP0 HR0
  obtain ⟨lm, hlm⟩ : ∃ m, m = min ln 40 := ⟨_, rfl⟩
  obtain ⟨om, hom⟩ : ∃ m, m = min on 70 := ⟨_, rfl⟩
  obtain ⟨bm, hbm⟩ : ∃ m, m = min bn 40 := ⟨_, rfl⟩
  have cb : w1.cell? ⟨P + 1, 5, none⟩ = some (.slice ba bn bc) := by have h := HR1.out.barred; rw [HRV.out] at h; exact h
  have cl : w1.cell? ⟨P + 1, 47, none⟩ = some (.slice la ln lc) := by have h := HR1.out.lots; rw [HRV.out] at h; exact h
  have co : w1.cell? ⟨P + 1, 48, none⟩ = some (.slice oa on oc) := by have h := HR1.out.owners; rw [HRV.out] at h; exact h
  have fb := HR1.out.free 5
  have fl := HR1.out.free 47
  have fo := HR1.out.free 48
  go_upto_region 3 with fail
  go_cut [6] (fun s6 wx => s6 = .bool false ∧ Aside (CtF w P x0 x1 wx))
  case first =>
    have HLIM : Aside ((lm ≤ ln ∧ lm ≤ 40) ∧ (om ≤ on ∧ om ≤ 70) ∧ (bm ≤ bn ∧ bm ≤ 40)) := by rw [Aside]; omega
    have HMIN := aside (And.intro hlm (And.intro hom hbm))
    have HFIN := aside (ctf_of (x0 := x0) (x1 := x1) (by rw [HPW.out]; exact Nat.le_refl _) HB1.out HP1.out (by rw [← HRV.out]; exact HR1.out) HBR.out HLR.out HOR.out HOK.out HLL.out HLIM.out)
    have hlc1 : (lm : Int) ≤ lc := by omega
    have hoc1 : (om : Int) ≤ oc := by omega
    have hbc1 : (bm : Int) ≤ bc := by omega
    clear hlm hom hbm hbc hlc hoc
    refine late_begin (t := 22) (S := fun W => W.cell? ⟨P + 1, 47, none⟩ = some (.slice la ln lc) ∧ W.cell? ⟨P + 1, 48, none⟩ = some (.slice oa on oc) ∧ W.cell? ⟨P + 1, 5, none⟩ = some (.slice ba bn bc)) (by kernel_rfl) ?_
    refine late_free (i := 0) (oi := _) (v := .pointer (some ⟨P + 1, 47, none⟩)) rfl (by kernel_rfl) (by kernel_rfl) (by kernel_rfl) (by decide) (fun _ _ _ h => h) (Or.inl ⟨by rfl, ?_⟩) (.inr ⟨cl, co, cb⟩) ?_
    · intro W hSw
      go_simp
    try simp only [Act.put, ps]
    refine late_load (i := 1) (oi := _) (v := .slice la ln lc) rfl (by kernel_rfl) (by kernel_rfl) (by kernel_rfl) (by decide) (by kernel_rfl) (by rfl) (fun _ _ _ h => h) (Or.inl ⟨by rfl, ?_⟩) ⟨cl, co, cb⟩ ?_
    · intro W hSw
      obtain ⟨hS1, hS2, hS3⟩ := hSw
      go_simp
    try simp only [Act.put, ps]
    refine late_free (i := 2) (oi := _) (v := .pointer (some ⟨P + 1, 47, none⟩)) rfl (by kernel_rfl) (by kernel_rfl) (by kernel_rfl) (by decide) (fun _ _ _ h => h) (Or.inl ⟨by rfl, ?_⟩) (.inr ⟨cl, co, cb⟩) ?_
    · intro W hSw
      go_simp
    try simp only [Act.put, ps]
    refine late_load (i := 3) (oi := _) (v := .slice la ln lc) rfl (by kernel_rfl) (by kernel_rfl) (by kernel_rfl) (by decide) (by kernel_rfl) (by rfl) (fun _ _ _ h => h) (Or.inl ⟨by rfl, ?_⟩) ⟨cl, co, cb⟩ ?_
    · intro W hSw
      obtain ⟨hS1, hS2, hS3⟩ := hSw
      go_simp
    try simp only [Act.put, ps]
    refine late_free (i := 4) (oi := _) (v := .int .i64 ln) rfl (by kernel_rfl) (by kernel_rfl) (by kernel_rfl) (by decide) (fun _ _ _ h => h) (Or.inl ⟨by rfl, ?_⟩) (.inr ⟨cl, co, cb⟩) ?_
    · intro W hSw
      go_simp
    try simp only [Act.put, ps]
    refine late_free (i := 5) (oi := _) (v := .int .i64 lm) rfl (by kernel_rfl) (by kernel_rfl) (by kernel_rfl) (by decide) (fun _ _ _ h => h) (Or.inl ⟨by rfl, ?_⟩) (.inr ⟨cl, co, cb⟩) ?_
    · intro W hSw
      by_cases h : (ln : Int) ≤ 40
      · have e : (lm : Int) = ln := by have := HMIN.out; omega
        rw [e]
        first | (go_simp; done) | (go_simp; omega)
      · have e : (lm : Int) = 40 := by have := HMIN.out; omega
        rw [e]
        have h2 : (40 : Int) ≤ ln := by omega
        go_simp
    try simp only [Act.put, ps]
    refine late_free (i := 6) (oi := _) (v := .slice la lm lc) rfl (by kernel_rfl) (by kernel_rfl) (by kernel_rfl) (by decide) (fun _ _ _ h => h) (Or.inl ⟨by rfl, ?_⟩) (.inr ⟨cl, co, cb⟩) ?_
    · intro W hSw
      go_simp
    try simp only [Act.put, ps]
    refine late_free (i := 7) (oi := _) (v := .pointer (some ⟨P + 1, 48, none⟩)) rfl (by kernel_rfl) (by kernel_rfl) (by kernel_rfl) (by decide) (fun _ _ _ h => h) (Or.inl ⟨by rfl, ?_⟩) (.inr ⟨cl, co, cb⟩) ?_
    · intro W hSw
      go_simp
    try simp only [Act.put, ps]
    refine late_load (i := 8) (oi := _) (v := .slice oa on oc) rfl (by kernel_rfl) (by kernel_rfl) (by kernel_rfl) (by decide) (by kernel_rfl) (by rfl) (fun _ _ _ h => h) (Or.inl ⟨by rfl, ?_⟩) ⟨cl, co, cb⟩ ?_
    · intro W hSw
      obtain ⟨hS1, hS2, hS3⟩ := hSw
      go_simp
    try simp only [Act.put, ps]
    refine late_free (i := 9) (oi := _) (v := .pointer (some ⟨P + 1, 48, none⟩)) rfl (by kernel_rfl) (by kernel_rfl) (by kernel_rfl) (by decide) (fun _ _ _ h => h) (Or.inl ⟨by rfl, ?_⟩) (.inr ⟨cl, co, cb⟩) ?_
    · intro W hSw
      go_simp
    try simp only [Act.put, ps]
    refine late_load (i := 10) (oi := _) (v := .slice oa on oc) rfl (by kernel_rfl) (by kernel_rfl) (by kernel_rfl) (by decide) (by kernel_rfl) (by rfl) (fun _ _ _ h => h) (Or.inl ⟨by rfl, ?_⟩) ⟨cl, co, cb⟩ ?_
    · intro W hSw
      obtain ⟨hS1, hS2, hS3⟩ := hSw
      go_simp
    try simp only [Act.put, ps]
    refine late_free (i := 11) (oi := _) (v := .int .i64 on) rfl (by kernel_rfl) (by kernel_rfl) (by kernel_rfl) (by decide) (fun _ _ _ h => h) (Or.inl ⟨by rfl, ?_⟩) (.inr ⟨cl, co, cb⟩) ?_
    · intro W hSw
      go_simp
    try simp only [Act.put, ps]
    refine late_free (i := 12) (oi := _) (v := .int .i64 om) rfl (by kernel_rfl) (by kernel_rfl) (by kernel_rfl) (by decide) (fun _ _ _ h => h) (Or.inl ⟨by rfl, ?_⟩) (.inr ⟨cl, co, cb⟩) ?_
    · intro W hSw
      by_cases h : (on : Int) ≤ 70
      · have e : (om : Int) = on := by have := HMIN.out; omega
        rw [e]
        first | (go_simp; done) | (go_simp; omega)
      · have e : (om : Int) = 70 := by have := HMIN.out; omega
        rw [e]
        have h2 : (70 : Int) ≤ on := by omega
        go_simp
    try simp only [Act.put, ps]
    refine late_free (i := 13) (oi := _) (v := .slice oa om oc) rfl (by kernel_rfl) (by kernel_rfl) (by kernel_rfl) (by decide) (fun _ _ _ h => h) (Or.inl ⟨by rfl, ?_⟩) (.inr ⟨cl, co, cb⟩) ?_
    · intro W hSw
      go_simp
    try simp only [Act.put, ps]
    refine late_free (i := 14) (oi := _) (v := .pointer (some ⟨P + 1, 5, none⟩)) rfl (by kernel_rfl) (by kernel_rfl) (by kernel_rfl) (by decide) (fun _ _ _ h => h) (Or.inl ⟨by rfl, ?_⟩) (.inr ⟨cl, co, cb⟩) ?_
    · intro W hSw
      go_simp
    try simp only [Act.put, ps]
    refine late_load (i := 15) (oi := _) (v := .slice ba bn bc) rfl (by kernel_rfl) (by kernel_rfl) (by kernel_rfl) (by decide) (by kernel_rfl) (by rfl) (fun _ _ _ h => h) (Or.inl ⟨by rfl, ?_⟩) ⟨cl, co, cb⟩ ?_
    · intro W hSw
      obtain ⟨hS1, hS2, hS3⟩ := hSw
      go_simp
    try simp only [Act.put, ps]
    refine late_free (i := 16) (oi := _) (v := .pointer (some ⟨P + 1, 5, none⟩)) rfl (by kernel_rfl) (by kernel_rfl) (by kernel_rfl) (by decide) (fun _ _ _ h => h) (Or.inl ⟨by rfl, ?_⟩) (.inr ⟨cl, co, cb⟩) ?_
    · intro W hSw
      go_simp
    try simp only [Act.put, ps]
    refine late_load (i := 17) (oi := _) (v := .slice ba bn bc) rfl (by kernel_rfl) (by kernel_rfl) (by kernel_rfl) (by decide) (by kernel_rfl) (by rfl) (fun _ _ _ h => h) (Or.inl ⟨by rfl, ?_⟩) ⟨cl, co, cb⟩ ?_
    · intro W hSw
      obtain ⟨hS1, hS2, hS3⟩ := hSw
      go_simp
    try simp only [Act.put, ps]
    refine late_free (i := 18) (oi := _) (v := .int .i64 bn) rfl (by kernel_rfl) (by kernel_rfl) (by kernel_rfl) (by decide) (fun _ _ _ h => h) (Or.inl ⟨by rfl, ?_⟩) (.inr ⟨cl, co, cb⟩) ?_
    · intro W hSw
      go_simp
    try simp only [Act.put, ps]
    refine late_free (i := 19) (oi := _) (v := .int .i64 bm) rfl (by kernel_rfl) (by kernel_rfl) (by kernel_rfl) (by decide) (fun _ _ _ h => h) (Or.inl ⟨by rfl, ?_⟩) (.inr ⟨cl, co, cb⟩) ?_
    · intro W hSw
      by_cases h : (bn : Int) ≤ 40
      · have e : (bm : Int) = bn := by have := HMIN.out; omega
        rw [e]
        first | (go_simp; done) | (go_simp; omega)
      · have e : (bm : Int) = 40 := by have := HMIN.out; omega
        rw [e]
        have h2 : (40 : Int) ≤ bn := by omega
        go_simp
    try simp only [Act.put, ps]
    refine late_free (i := 20) (oi := _) (v := .slice ba bm bc) rfl (by kernel_rfl) (by kernel_rfl) (by kernel_rfl) (by decide) (fun _ _ _ h => h) (Or.inl ⟨by rfl, ?_⟩) (.inr ⟨cl, co, cb⟩) ?_
    · intro W hSw
      go_simp
    try simp only [Act.put, ps]
    refine late_free (i := 21) (oi := _) (v := .pointer (some ⟨P + 1, 47, none⟩)) rfl (by kernel_rfl) (by kernel_rfl) (by kernel_rfl) (by decide) (fun _ _ _ h => h) (Or.inl ⟨by rfl, ?_⟩) (.inr ⟨cl, co, cb⟩) ?_
    · intro W hSw
      go_simp
    try simp only [Act.put, ps]
    refine late_one (j := 22) (by kernel_rfl) rfl (by rfl) fun K hK => ?_
    go_simp
    refine hK.out _ _ ?_
    refine late_one (j := 23) (by kernel_rfl) rfl (by rfl) fun K hK => ?_
    go_simp
    refine hK.out _ _ ?_
    refine late_one (j := 24) (by kernel_rfl) rfl (by rfl) fun K hK => ?_
    go_simp
    refine hK.out _ _ ?_
    refine late_one (j := 25) (by kernel_rfl) rfl (by rfl) fun K hK => ?_
    go_simp
    refine hK.out _ _ ?_
    refine late_one (j := 26) (by kernel_rfl) rfl (by rfl) fun K hK => ?_
    go_simp
    refine hK.out _ _ ?_
    refine late_done (by kernel_rfl) ?_ _
    clear hK
    apply_assumption
    go_meet
    case rel => exact ⟨rfl, HFIN⟩
  case rest =>
    obtain ⟨rfl, HC⟩ := hcut
    clear cb cl co fb fl fo hlm hom hbm hbn hln hon hbc hlc hoc HBR HLR HOR HOK HLL HB1 HP1 HR1 HRV
    apply_assumption
    obtain ⟨rv2, d2, hr2, hm2, ho2, hn2, hp2, hb2⟩ := HC.out
    have HR2 := aside hr2
    have HM2 := aside hm2
    have HO2 := aside ho2
    have HN2 := aside hn2
    have HP2 := aside hp2
    have HB2 := aside hb2
    clear hr2 hm2 ho2 hn2 hp2 hb2 HC
    go_wp2_with fail
    refine (new_log wc).mono ?_
    rintro e w3 ⟨rfl, hb3, hl3⟩
    obtain ⟨b, hbb⟩ : ∃ b, b = wc.heap.size := ⟨_, rfl⟩
    rw [← hbb] at hl3 ⊢
    have HPB : Aside (w.heap.size = P ∧ P + 2 ≤ b) := by
      have h := HR2.out.lt
      rw [Aside, HPW.out, hbb]
      rw [HPW.out] at h
      exact ⟨rfl, h⟩
    have hbw3 : b + 1 ≤ w3.heap.size := hl3.sum.lt
    have HS3 : Aside (TSt w P b (b + 1) x0 x1 rv2 d2 (.slice none 0 0) [] [] (.slice none 0 0) 0 w3) :=
      ⟨HR2.out.new hb3, (HM2.out _).on hb3, whole_new HP2.out hb3, new_trans HB2.out hb3, hl3, RecsF.nil _ _, RecsM.nil _ _ _ _, fun x h => by simp at h, Nat.le_refl _, HPB.out, Nat.le_refl _, hbw3, fun k e => by cases e⟩
    have HBW3 := aside hbw3
    clear hb3 hl3 hbb hbw3 HR2 HM2 HP2 HB2
    go_wp2_with fail
    refine (records_any v nd HND.out w3 (HDA.out.on HS3.out.bel)).mono ?_
    rintro e w4 ⟨v1, ds, rfl, hr4, hma4, hle4, hb4⟩
    obtain ⟨C, hC⟩ : ∃ C, C = w4.heap.size := ⟨_, rfl⟩
    have hbC : b + 1 ≤ C := by rw [hC]; exact Nat.le_trans HBW3.out hb4.size
    have HS4 : Aside (TSt w P b C x0 x1 rv2 d2 v1 ds [] (.slice none 0 0) 0 w4) := by
      have h := HS3.out.on hb4
      exact ⟨h.box, h.recm, h.p, h.bel, h.log, hr4.mono HBW3.out, RecsM.nil _ _ _ _, h.may, h.few, h.pb, hbC, by rw [hC]; exact Nat.le_refl _, fun k e => by rw [hC]; exact (hr4.own k e).2.1⟩
    have HMA := aside hma4
    obtain ⟨va, vc, rfl⟩ : ∃ a c, v1 = .slice a ds.length c := by
      obtain ⟨_, _, h2, _⟩ := hr4
      obtain ⟨a, cap, e, _⟩ := ownsRow_form h2
      exact ⟨a, cap, e⟩
    obtain ⟨n, hn⟩ : ∃ n, n = ds.length := ⟨_, rfl⟩
    rw [← hn] at HS4 hle4 ⊢
    have HN := aside hn
    have HLE := aside hle4
    clear hr4 hma4 hle4 hb4 HS3 HBW3 hn hC hbC
    go_wp2_with fail
    go_loopg [9, 10] (n + 1) (fun g v9 v10 wr => ∃ (k : Nat) (acc : List RecD), k ≤ n + 1 ∧ v10 = .int .i64 k ∧ n + 1 - k ≤ g ∧ Aside (TSt w P b C x0 x1 rv2 d2 (.slice va n vc) ds acc v9 (2 * k) wr))
    case atStart => exact ⟨0, [], by omega, rfl, by omega, HS4⟩
    case round =>
      obtain ⟨k, acc, hk, rfl, hg, HS⟩ := hrel
      clear HS4
      by_cases hlt : k ≤ n
      · have hki : (k : Int) ≤ n := by omega
        have HME : Aside (∀ q, n + 1 - k ≤ q → n + 1 - (k + 1) < q) := fun q h => by omega
        have hn12 : n ≤ 12 := HLE.out
        have hi49 : ∀ r : RecV, (Tryz.prog.info? 38).map (·.size) = some (recCells r).size := fun r => by rw [recCells_size]; kernel_rfl
        have hon2 := HS.out.recm.one
        go_upto_if 55 with (first
          | (refine wpList_load_row rfl _ _ rfl (P + 1) rfl _ (recCells rv2) (0, 0) _ HS.out.box Tryz.underlying38 rfl (hi49 rv2) ?_)
          | (refine wpList_store_row rfl _ _ _ rfl wr.heap.size (recCells rv2) rfl rfl 38 _ (heap_new wr _) (hi49 rv2) (by rw [recCells_size]; simp) hon2 ?_; rw [World.setRow_alloc_new])
          | fail)
        obtain ⟨L, hL⟩ : ∃ x, x = wr.heap.size := ⟨_, rfl⟩
        obtain ⟨w5, hw5⟩ : ∃ z, z = wr.alloc (.cells (recCells rv2) 38) := ⟨_, rfl⟩
        have HR5 : Aside (RecIn w5 L rv2) := by rw [hw5, hL]; exact RecIn.box _ _
        have HS5 : Aside (TSt w P b C x0 x1 rv2 d2 (.slice va n vc) ds acc u9 (2 * k) w5) := by rw [hw5]; exact HS.out.on (new_alloc _ _)
        rw [← hw5, ← hL]
        have HW5 := aside hw5
        have HL5 := aside hL
        clear hw5 hL hon2
        try simp only [Act.put]
        go_cut [11] (fun s11 wx => s11 = .pointer (some ⟨L, 0, none⟩) ∧ ∃ rvE dE, Aside (RecIn wx L rvE) ∧ Aside (TEl w b rvE dE wx) ∧ Aside (dE.barred.length + dE.lots.length + dE.owners.length ≤ 1000) ∧ Aside (TSt w P b C x0 x1 rv2 d2 (.slice va n vc) ds acc u9 (2 * k) wx))
        case first =>
          by_cases hkn : k < n
          · have hkj : (k : Int) < n := by omega
            obtain ⟨g, lo, rvE, rfl, hgl, hrg, hrf⟩ := HS.out.rs.nth HN.out k hkn
            have hrg5 := rangeAt_on hrg hgl (show Below wr.heap.size wr w5 by rw [HW5.out]; exact new_alloc _ _)
            have hxw : w5.setRow L (recCells rvE) = wr.alloc (.cells (recCells rvE) 38) := by rw [HW5.out, HL5.out, World.setRow_alloc_new]
            obtain ⟨dE, hdE⟩ : ∃ d, d = ds.getD k {} := ⟨_, rfl⟩
            have hmem : dE ∈ ds := by rw [hdE, List.getD_eq_getElem?_getD, List.getElem?_eq_getElem (show k < ds.length by rw [← HN.out]; exact hkn)]; exact List.getElem_mem _
            have hmE := HMA.out dE hmem
            have HEN : Aside (dE.barred.length + dE.lots.length + dE.owners.length ≤ 1000) := may_rows hmE.1 hmE.2
            rw [← hdE] at hrf
            have hone := hrf.one
            have HSX : Aside (TSt w P b C x0 x1 rv2 d2 (.slice (some ⟨g, lo, none⟩) n vc) ds acc u9 (2 * k) (w5.setRow L (recCells rvE))) := by rw [hxw]; exact HS.out.on (new_alloc _ _)
            have HEX : Aside (TEl w b rvE dE (w5.setRow L (recCells rvE))) := by rw [hxw]; exact (TEl.mk (.from_ hrf) hmE.2 : TEl w b rvE dE wr).on (new_alloc _ _)
            have HRX : Aside (RecIn (w5.setRow L (recCells rvE)) L rvE) := RecIn.setRow HR5.out _
            have HRG := aside hrg5
            have hiL : (Tryz.prog.info? 38).map (·.size) = some (recCells rvE).toList.length := by rw [Array.length_toList]; exact hi49 rvE
            clear hgl hrg hrf hrg5 hxw hdE hmem hmE
            go_wp2_with (first
              | (refine wpList_load_midG (by rfl) _ _ rfl g (lo + k * 49) rfl _ _ HRG.out Tryz.underlying38 rfl hiL (recCells rvE) (Array.toArray_toList) ?_)
              | (refine wpList_store_row rfl _ _ _ rfl L (recCells rvE) rfl rfl 38 _ HR5.out (hi49 rvE) (by rw [recCells_size, recCells_size]) hone ?_)
              | fail)
            go_meet
            case rel => exact ⟨rfl, rvE, dE, HRX, HEX, HEN, HSX⟩
          · have hkj : ¬ (k : Int) < n := by omega
            go_wp2_with fail
            go_meet
            case rel => exact ⟨rfl, rv2, d2, HR5, ⟨HS5.out.recm, HO2.out⟩, HN2, HS5⟩
        case rest =>
        obtain ⟨rfl, rvE, dE, HRE, HEE, HNE, HS6⟩ := hcut
        clear HS HS5 HR5 HW5 HL5 w5
        obtain ⟨cp, hcp⟩ : ∃ cp, cp = (recCells rvE).toList := ⟨_, rfl⟩
        have hi1 : (Tryz.prog.info? 38).map (·.size) = some cp.length := by rw [hcp, Array.length_toList]; exact hi49 rvE
        have HCP : Aside (cp.toArray = recCells rvE) := by rw [Aside, hcp, Array.toArray_toList]
        have hrg : wc.rangeAt L 0 cp := by rw [hcp]; exact range_whole HRE.out
        have hLl := HRE.out.lt
        have hPl := whole_lt HS6.out.p
        have c0 : wc.cell? ⟨P, 0, none⟩ = some (.int .i64 x0) := cell_whole HS6.out.p 0
        have c1 : wc.cell? ⟨P, 1, none⟩ = some (.int .i64 x1) := cell_whole HS6.out.p 1
        obtain ⟨y0, hy0⟩ : ∃ y, y = IntKind.u8.wrap x0 := ⟨_, rfl⟩
        have HY : Aside (0 ≤ y0 ∧ y0 ≤ 255) := by rw [Aside, hy0, IntKind.wrap_u8]; omega
        have hwy : IntKind.u8.wrap x0 = y0 := hy0.symm
        clear hcp hy0
        try apply_assumption
        go_upto_region 13 with fail
        have hS0 : (fun W : World => W.rangeAt L 0 cp ∧ W.cell? ⟨P, 0, none⟩ = some (.int .i64 x0) ∧ W.cell? ⟨P, 1, none⟩ = some (.int .i64 x1)) wc.drew := ⟨rangeAt_on hrg hLl (new_drew _), ((new_drew wc).cell (p := ⟨P, 0, none⟩) hPl).trans c0, ((new_drew wc).cell (p := ⟨P, 1, none⟩) hPl).trans c1⟩
        refine wp_region_held_drew (S := fun W => W.rangeAt L 0 cp ∧ W.cell? ⟨P, 0, none⟩ = some (.int .i64 x0) ∧ W.cell? ⟨P, 1, none⟩ = some (.int .i64 x1)) (by kernel_rfl) hS0 (fun hHeld => ?_)
        refine wpAnyH_take (i := 0) (oi := _) (v := .agg cp.toArray) rfl (by kernel_rfl) (by kernel_rfl) (by kernel_rfl) (fun _ _ _ h => h) (yieldsIf_load_mid (by rfl) 38 (.tmp 11) rfl L 0 rfl cp _ (fun W hW => hW.1) Tryz.underlying38 rfl hi1) hHeld ?_
        simp only [Act.put, ps]
        refine wpAnyH_take (i := 1) (oi := _) (v := .agg cp.toArray) rfl (by kernel_rfl) (by kernel_rfl) (by kernel_rfl) (fun _ _ _ h => h) (yieldsIf_load_mid (by rfl) 38 (.tmp 11) rfl L 0 rfl cp _ (fun W hW => hW.1) Tryz.underlying38 rfl hi1) hHeld ?_
        simp only [Act.put, ps]
        refine wpAnyH_take (i := 2) (oi := _) (v := .pointer (some ⟨P, 0, none⟩)) rfl (by kernel_rfl) (by kernel_rfl) (by kernel_rfl) (fun _ _ _ h => h) (Or.inl ⟨by rfl, ?_⟩) hHeld ?_
        · intro W hSw
          go_simp
        simp only [Act.put, ps]
        refine wpAnyH_take (i := 3) (oi := _) (v := .int .i64 x0) rfl (by kernel_rfl) (by kernel_rfl) (by kernel_rfl) (fun _ _ _ h => h) (Or.inl ⟨by rfl, ?_⟩) hHeld ?_
        · intro W hSw
          obtain ⟨hS1, hS2, hS3⟩ := hSw
          go_simp
        simp only [Act.put, ps]
        refine wpAnyH_take (i := 4) (oi := _) (v := .int .u8 y0) rfl (by kernel_rfl) (by kernel_rfl) (by kernel_rfl) (fun _ _ _ h => h) (Or.inl ⟨by rfl, ?_⟩) hHeld ?_
        · intro W hSw
          go_simp
        simp only [Act.put, ps]
        refine wpAnyH_take (i := 5) (oi := _) (v := .pointer (some ⟨P, 1, none⟩)) rfl (by kernel_rfl) (by kernel_rfl) (by kernel_rfl) (fun _ _ _ h => h) (Or.inl ⟨by rfl, ?_⟩) hHeld ?_
        · intro W hSw
          go_simp
        simp only [Act.put, ps]
        refine wpAnyH_take (i := 6) (oi := _) (v := .int .i64 x1) rfl (by kernel_rfl) (by kernel_rfl) (by kernel_rfl) (fun _ _ _ h => h) (Or.inl ⟨by rfl, ?_⟩) hHeld ?_
        · intro W hSw
          obtain ⟨hS1, hS2, hS3⟩ := hSw
          go_simp
        simp only [Act.put, ps]
        refine wpAnyH_take (i := 9) (oi := _) (v := .int .i64 0) rfl (by kernel_rfl) (by kernel_rfl) (by kernel_rfl) (fun _ _ _ h => h) (Or.inl ⟨by rfl, ?_⟩) hHeld ?_
        · intro W hSw
          go_simp
        simp only [Act.put, ps]
        rw [HCP.out]
        refine wpAnyH_ready (rs := [7]) (by kernel_rfl) (by simp) ?_
        refine AllReadyH.cons (o := _) rfl (fun K hK => ?_) AllReadyH.nil
        go_simp
        refine (turned_any (· < w.heap.size) (b + 1) rvE dE HEE.out.ok y0 x1 HY.out HX.out.2 wc.drew (HEE.out.recm.on (new_drew _)) ?_ HNE.out).mono ?_
        · exact Nat.lt_of_lt_of_le HS6.out.log.sum.lt (new_drew wc).size
        rintro e w7 ⟨rvT, dT, rfl, hrT, hoT, hbT⟩
        have hb7 : Below wc.heap.size wc w7 := new_trans (new_drew _) hbT
        have hs7 : (fun W : World => W.rangeAt L 0 cp ∧ W.cell? ⟨P, 0, none⟩ = some (.int .i64 x0) ∧ W.cell? ⟨P, 1, none⟩ = some (.int .i64 x1)) w7 := ⟨rangeAt_on hrg hLl hb7, (hb7.cell (p := ⟨P, 0, none⟩) hPl).trans c0, (hb7.cell (p := ⟨P, 1, none⟩) hPl).trans c1⟩
        refine hK.out _ _ hs7 (fun hHeld => ?_)
        clear hK K
        have hbt := build_two (recCells rvE) (recCells rvT) (recCells_size _) (recCells_size _)
        refine wpAnyH_take (i := 8) (oi := _) (v := .agg (recCells rvE ++ recCells rvT)) rfl (by kernel_rfl) (by kernel_rfl) (by kernel_rfl) (fun _ _ _ h => h) (yieldsIf_build_by (by rfl) 59 [(0, .tmp 60), (1, .tmp 67)] rfl [(0, .agg (recCells rvE)), (1, .agg (recCells rvT))] rfl _ hbt) hHeld ?_
        simp only [Act.put, ps]
        refine wpAnyH_done (by kernel_rfl) ?_ _
        have HS7 : Aside (TSt w P b C x0 x1 rv2 d2 (.slice va n vc) ds acc u9 (2 * k) w7) := HS6.out.on hb7
        have HE7 : Aside (TEl w b rvE dE w7) := HEE.out.on hb7
        have HT7 : Aside (TEl w b rvT dT w7) := ⟨hrT, hoT⟩
        clear hHeld hs7 hS0 hrg hLl hPl c0 c1 hwy hi1 HS6 HEE hrT hoT hbT hb7 hbt HRE HCP HNE HY
        obtain ⟨E2, hE2⟩ : ∃ E, E = recCells rvE ++ recCells rvT := ⟨_, rfl⟩
        have HIX : Aside (∀ (t : Nat), t < 2 → ∀ W, (Instr.index 59 (.agg E2) (.int .i64 (t : Int))).run Tryz.prog W = .ok (.agg (recCells (if t = 0 then rvE else rvT))) W) := fun t ht W => by
          rw [hE2, idx_rec (recCells rvE) (recCells rvT) (recCells_size _) (recCells_size _) t ht W]
          by_cases h : t = 0 <;> simp [h]
        rw [← hE2]
        clear hE2
        go_wp2_with fail
        go_loopg [9, 69] 2 (fun g v9 v69 wr => ∃ (t : Nat) (acc : List RecD), t ≤ 2 ∧ v69 = .int .i64 t ∧ 2 - t ≤ g ∧ Aside (TSt w P b C x0 x1 rv2 d2 (.slice va n vc) ds acc v9 (2 * k + t) wr) ∧ Aside (TEl w b rvE dE wr) ∧ Aside (TEl w b rvT dT wr))
        case atStart => exact ⟨0, acc, by omega, rfl, by omega, HS7, HE7, HT7⟩
        case round =>
          obtain ⟨t, ac, ht2, rfl, hgt, HS, HE, HET⟩ := hrel
          clear HS7 HE7 HT7
          by_cases htl : t < 2
          · have hti : (t : Int) < 2 := by omega
            have HMT : Aside (∀ q, 2 - t ≤ q → 2 - (t + 1) < q) := fun q h => by omega
            have hidx := HIX.out t htl
            obtain ⟨rvX, dX, hrX, HEX⟩ : ∃ rvX dX, (if t = 0 then rvE else rvT) = rvX ∧ Aside (TEl w b rvX dX wr) := by
              by_cases h : t = 0
              · exact ⟨rvE, dE, if_pos h, HE⟩
              · exact ⟨rvT, dT, if_neg h, HET⟩
            rw [hrX] at hidx
            clear hrX
            obtain ⟨av, cv, rfl⟩ := HS.out.all.form
            obtain ⟨na, hna⟩ : ∃ m, m = ac.length := ⟨_, rfl⟩
            rw [← hna] at HS ⊢
            have hna26 : na ≤ 26 := by have := HS.out.few; omega
            have HNA := aside hna
            have HN26 := aside hna26
            have honX := HEX.out.recm.one
            have HTK : Aside (t + 1 ≤ 2) := htl
            clear hna hna26 htl
            go_upto_region 16 with (first
              | (refine wpList_store_row rfl _ _ _ rfl wr.heap.size (recCells rvX) rfl rfl 38 _ (heap_new wr _) (hi49 rvX) (by rw [recCells_size]; simp) honX ?_; rw [World.setRow_alloc_new])
              | fail)
            obtain ⟨M, hM⟩ : ∃ x, x = wr.heap.size := ⟨_, rfl⟩
            obtain ⟨w8, hw8⟩ : ∃ z, z = wr.alloc (.cells (recCells rvX) 38) := ⟨_, rfl⟩
            have HR8 : Aside (RecIn w8 M rvX) := by rw [hw8, hM]; exact RecIn.box _ _
            have HS8 : Aside (TSt w P b C x0 x1 rv2 d2 (.slice va n vc) ds ac (.slice av na cv) (2 * k + t) w8) := by rw [hw8]; exact HS.out.on (new_alloc _ _)
            have HE8 : Aside (TEl w b rvE dE w8) := by rw [hw8]; exact HE.out.on (new_alloc _ _)
            have HT8 : Aside (TEl w b rvT dT w8) := by rw [hw8]; exact HET.out.on (new_alloc _ _)
            have HX8 : Aside (TEl w b rvX dX w8) := by rw [hw8]; exact HEX.out.on (new_alloc _ _)
            have HMB : Aside (M ≠ b) := by rw [Aside, hM]; exact Nat.ne_of_gt HS.out.log.sum.lt
            rw [← hw8, ← hM]
            clear hw8 hM honX hidx HS HE HET HEX
            try simp only [Act.put]
            go_wp2_with (first
              | (refine wpList_load_row rfl _ _ rfl M rfl _ (recCells rvX) (0, 0) _ HR8.out Tryz.underlying38 rfl (hi49 rvX) ?_)
              | fail)
            have HWB : Aside (w.heap.size ≤ b) := by have := HS8.out.pb; rw [Aside]; omega
            refine (lays_any b _ _ _ ?hn ?hts rvX dX HX8.out.ok refF refK kk w8 (HT.out.sha.on HS8.out.bel) HS8.out.log HX8.out.recm.at_ (fun W hk => (HX8.out.lay HWB.out hk).recm.at_)).mono ?_
            case hn => have := HS8.out.few; omega
            case hts =>
              have := text_le (sumB_size refK refF) ac zero32 HS8.out.may
              have := HS8.out.few
              omega
            rintro e w9 ⟨rfl, hk9, hl9⟩
            have HR9 : Aside (RecIn w9 M rvX) := HR8.out.keeps hk9 HMB.out
            have HE9 : Aside (TEl w b rvE dE w9) := HE8.out.lay HWB.out hk9
            have HT9 : Aside (TEl w b rvT dT w9) := HT8.out.lay HWB.out hk9
            have HX9 : Aside (TEl w b rvX dX w9) := HX8.out.lay HWB.out hk9
            by_cases hmy : mayB dX = true
            · rw [if_pos hmy] at hl9
              have HL9 := aside (HS8.out.laid hk9 hl9)
              have HMY := aside hmy
              clear hk9 hl9 HS8 HE8 HT8 HX8 HR8 hmy
              go_wp2_with (first
                | (refine wpList_load_row rfl _ _ rfl M rfl _ (recCells rvX) (0, 0) _ HR9.out Tryz.underlying38 rfl (hi49 rvX) ?_)
                | fail)
              refine (rmayd_any rvX dX HX9.out.ok w9 HX9.out.recm.at_).mono ?_
              rintro e w10 ⟨rfl, hb10⟩
              rw [HMY.out]
              have HR10 := aside (HR9.out.new hb10)
              have HE10 := aside (HE9.out.on hb10)
              have HT10 := aside (HT9.out.on hb10)
              have HX10 := aside (HX9.out.on hb10)
              have HL10 := aside (HL9.out.on hb10)
              clear hb10 HR9 HE9 HT9 HX9 HL9
              obtain ⟨D, hD⟩ : ∃ D, D = recCells rvX := ⟨_, rfl⟩
              have HONE : Aside (D.all (·.oneCell') = true) := by rw [hD]; exact HX10.out.recm.one
              have HD49 : Aside (D.size = 49) := by rw [hD]; exact recCells_size rvX
              have HRD : Aside (w10.heap[M]? = some (.cells D 38 (0, 0))) := by rw [hD]; exact HR10.out
              have hiD : (Tryz.prog.info? 38).map (·.size) = some D.size := by rw [hD]; exact hi49 rvX
              have HDD := aside hD
              obtain ⟨rvs, hv1, hv2, hv3⟩ := HL10.out.all
              have HV1 := aside hv1
              rw [← HNA.out] at hv2
              have HV2 := aside hv2
              have HV3 := aside hv3
              clear hD hv1 hv2 hv3
              go_wp2_with (first
                | (refine wpList_load_row rfl _ _ rfl M rfl _ D (0, 0) _ HRD.out Tryz.underlying38 rfl hiD ?_)
                | (refine wpList_slice_by rfl 48 1 _ rfl (.agg D) _ rfl (rec_slice D HD49.out w10) ?_)
                | (at_builtin; refine wpList_append_one rfl _ _ 48 38 rfl (.agg (recCells {})) 49 216 Tryz.underlying48 Tryz.infoRec rfl (by decide) C _ na _ rfl (World.ownsRow.alloc HV2.out _) w10.heap.size D.toList ?c1 ?c2 rfl ?c3 ?c4 ?c5 ?c6 ?_)
                | fail)
              case c1 => rw [Array.length_toList]; exact HD49.out
              case c2 => intro y hy; exact (Array.all_eq_true_iff_forall_mem.1 HONE.out) y (by simpa using hy)
              case c3 => intro j y hy; rw [cell_new]; simpa using hy
              case c4 => have := HN26.out; unfold maxLen; omega
              case c5 => have := HN26.out; omega
              case c6 => have := HL10.out.cw; simp; omega
              intro v' w11 hown' hgrow
              have hkg : ∀ K : Nat → Prop, (∀ k', (Value.slice av na cv).ownBlock = some k' → ¬ K k') → Keeps K w10 w11 := fun K hK => (keeps_of_new (new_alloc w10 (.cells D 38)) K).trans (keeps_grown hgrow K hK)
              have hall : RecsM (· < w.heap.size) (b + 1) C w11 v' (ac ++ [dX]) := by
                refine RecsM.snoc (w := w10) (v := .slice av na cv) (fun k hO => ?_) HV1.out (by rw [← HNA.out]; exact HV2.out) HV3.out HX10.out.recm hkg ?_
                · have h1 : k < w.heap.size := hO
                  have := HL10.out.pb
                  have := HL10.out.bc
                  omega
                · rw [← HNA.out, ← HDD.out]
                  exact hown'
              have HS11 : Aside (TSt w P b C x0 x1 rv2 d2 (.slice va n vc) ds (ac ++ [dX]) v' (2 * k + (t + 1)) w11) := HL10.out.done ⟨HMY.out, HX10.out.ok⟩ hkg hall
              have HE11 := aside (HL10.out.el HE10.out hkg)
              have HT11 := aside (HL10.out.el HT10.out hkg)
              clear hown' hgrow hkg hall HL10 HE10 HT10 HX10 HR10 HRD HV1 HV2 HV3 hiD
              go_wp2_with fail
              go_roundg (2 - (t + 1))
              case measure => exact HMT.out _ hgt
              case rel => exact ⟨t + 1, ac ++ [dX], HTK.out, by go_num, Nat.le_refl _, HS11, HE11, HT11⟩
            · rw [if_neg hmy] at hl9
              have HS9 := aside (HS8.out.lay hk9 hl9)
              have HMY : Aside (mayB dX = false) := by rw [Aside]; simpa using hmy
              clear hk9 hl9 HS8 HE8 HT8 HX8 HR8 hmy
              go_wp2_with (first
                | (refine wpList_load_row rfl _ _ rfl M rfl _ (recCells rvX) (0, 0) _ HR9.out Tryz.underlying38 rfl (hi49 rvX) ?_)
                | fail)
              refine (rmayd_any rvX dX HX9.out.ok w9 HX9.out.recm.at_).mono ?_
              rintro e w10 ⟨rfl, hb10⟩
              rw [HMY.out]
              have HE10 := aside (HE9.out.on hb10)
              have HT10 := aside (HT9.out.on hb10)
              have HS10 : Aside (TSt w P b C x0 x1 rv2 d2 (.slice va n vc) ds ac (.slice av na cv) (2 * k + (t + 1)) w10) := (HS9.out.on hb10).up (by omega)
              clear hb10 HR9 HE9 HT9 HX9 HS9
              go_wp2_with fail
              go_roundg (2 - (t + 1))
              case measure => exact HMT.out _ hgt
              case rel => exact ⟨t + 1, ac, HTK.out, by go_num, Nat.le_refl _, HS10, HE10, HT10⟩
          · have hti : ¬ (t : Int) < 2 := by omega
            have ht2e : t = 2 := by omega
            subst ht2e
            have HS11 : Aside (TSt w P b C x0 x1 rv2 d2 (.slice va n vc) ds ac u9 (2 * (k + 1)) wr) := HS.out.up (by omega)
            have hk1 : k + 1 ≤ n + 1 := by omega
            go_wp2_with fail
            go_roundg (n + 1 - (k + 1))
            case measure => exact HME.out _ hg
            case rel => exact ⟨k + 1, ac, hk1, by go_num, Nat.le_refl _, HS11⟩
      · have hki : ¬ (k : Int) ≤ n := by omega
        have hac : acc.length ≤ 26 := by have := HS.out.few; have := HLE.out; omega
        obtain ⟨av, cv, rfl⟩ := HS.out.all.form
        go_wp2_with fail
        refine (rtext_any _ acc (by omega) HS.out.may wr HS.out.all.at_).mono ?_
        rintro e w5 ⟨rfl, hb5⟩
        have hlg := HS.out.log.on hb5
        have HB5 := aside (new_trans HS.out.bel hb5)
        obtain ⟨x, hx⟩ : ∃ x, x = textF (sumB refK refF) zero32 acc := ⟨_, rfl⟩
        obtain ⟨s, hs⟩ : ∃ s, s = lastF (sumB refK refF) zero32 acc := ⟨_, rfl⟩
        obtain ⟨na, hna⟩ : ∃ m, m = acc.length := ⟨_, rfl⟩
        rw [← hx, ← hs, ← hna] at hlg
        rw [← hx, ← hs, ← hna]
        have HLG := aside hlg
        have hdi := digA_info s
        clear hx hs hna hlg hb5 HS hac
        go_upto_region 22 with (first
          | (refine wpList_store_row rfl _ _ _ rfl w5.heap.size (digA s) rfl rfl 33 _ (heap_new w5 _) hdi (by rw [digA_size]; rfl) (digA_one s) ?_; rw [World.setRow_alloc_new])
          | fail)
        obtain ⟨D, hD⟩ : ∃ x, x = w5.heap.size := ⟨_, rfl⟩
        obtain ⟨w6, hw6⟩ : ∃ z, z = w5.alloc (.cells (digA s) 33) := ⟨_, rfl⟩
        have hd6 : w6.heap[D]? = some (.cells (digA s) 33 (0, 0)) := by rw [hw6, hD]; exact heap_new _ _
        have HL6 : Aside (LogAt w6 b x s na) := by rw [hw6]; exact HLG.out.on (new_alloc _ _)
        have HB6 : Aside (Below w.heap.size w w6) := by rw [hw6]; exact new_trans HB5.out (new_alloc _ _)
        rw [← hw6, ← hD]
        clear hw6 hD
        obtain ⟨cq, hcq⟩ : ∃ cq, cq = (digA s).toList := ⟨_, rfl⟩
        have hi2 : (Tryz.prog.info? 33).map (·.size) = some cq.length := by rw [hcq, Array.length_toList]; exact hdi
        have HCQ : Aside (cq.toArray = digA s) := by rw [Aside, hcq, Array.toArray_toList]
        have hrg : w6.rangeAt D 0 cq := by rw [hcq]; exact range_whole hd6
        have hDl := whole_lt hd6
        have hxx : (x.toList == x.toList) = true := str_eq rfl
        have hee := digA_eql s
        clear hcq hd6 hdi
        try simp only [Act.put]
        have hS0 : (fun W : World => Below w6.heap.size w6 W) w6.drew := new_drew _
        refine wp_region_held_drew (S := fun W => Below w6.heap.size w6 W) (by kernel_rfl) hS0 (fun hHeld => ?_)
        refine wpAnyH_take (i := 0) (oi := _) (v := .pointer (some ⟨b, 0, none⟩)) rfl (by kernel_rfl) (by kernel_rfl) (by kernel_rfl) (fun _ _ _ h => h) (Or.inl ⟨by rfl, ?_⟩) hHeld ?_
        · intro W hSw
          go_simp
        simp only [Act.put, ps]
        refine wpAnyH_take (i := 2) (oi := _) (v := .string x) rfl (by kernel_rfl) (by kernel_rfl) (by kernel_rfl) (fun _ _ _ h => h) (Or.inl ⟨by rfl, ?_⟩) hHeld ?_
        · intro W hSw
          go_simp
        simp only [Act.put, ps]
        refine wpAnyH_ready (rs := [1]) (by kernel_rfl) (by simp) ?_
        refine AllReadyH.cons (o := _) rfl (fun K hK => ?_) AllReadyH.nil
        go_simp
        refine (text_log b x s na w6.drew (HL6.out.on (new_drew _))).mono ?_
        rintro e w7 ⟨rfl, rfl⟩
        refine hK.out _ _ hHeld (fun hHeld => ?_)
        clear hK K
        refine wpAnyH_take (i := 3) (oi := _) (v := .bool true) rfl (by kernel_rfl) (by kernel_rfl) (by kernel_rfl) (fun _ _ _ h => h) (Or.inl ⟨by rfl, ?_⟩) hHeld ?_
        · intro W hSw
          go_simp
        simp only [Act.put, ps]
        refine wpAnyH_take (i := 4) (oi := _) (v := .bool true) rfl (by kernel_rfl) (by kernel_rfl) (by kernel_rfl) (fun _ _ _ h => h) (Or.inl ⟨by rfl, ?_⟩) hHeld ?_
        · intro W hSw
          go_simp
        simp only [Act.put, ps]
        refine wpAnyH_take (i := 5) (oi := _) (v := .pointer (some ⟨b, 0, none⟩)) rfl (by kernel_rfl) (by kernel_rfl) (by kernel_rfl) (fun _ _ _ h => h) (Or.inl ⟨by rfl, ?_⟩) hHeld ?_
        · intro W hSw
          go_simp
        simp only [Act.put, ps]
        refine wpAnyH_take (i := 7) (oi := _) (v := .agg cq.toArray) rfl (by kernel_rfl) (by kernel_rfl) (by kernel_rfl) (fun _ _ _ h => h) (yieldsIf_load_mid (by rfl) 33 (.tmp 15) rfl D 0 rfl cq _ (fun W hW => rangeAt_on hrg hDl hW) Tryz.underlying33 rfl hi2) hHeld ?_
        simp only [Act.put, ps]
        rw [HCQ.out]
        refine wpAnyH_ready (rs := [6]) (by kernel_rfl) (by simp) ?_
        refine AllReadyH.cons (o := _) rfl (fun K hK => ?_) AllReadyH.nil
        go_simp
        refine (last_log b x s na w6.drew (HL6.out.on (new_drew _))).mono ?_
        rintro e w8 ⟨rfl, hb8⟩
        have hs8 : Below w6.heap.size w6 w8 := new_trans (new_drew _) hb8
        refine hK.out _ _ hs8 (fun hHeld => ?_)
        clear hK K
        refine wpAnyH_take (i := 8) (oi := _) (v := .bool true) rfl (by kernel_rfl) (by kernel_rfl) (by kernel_rfl) (fun _ _ _ h => h) (Or.inl ⟨by rfl, ?_⟩) hHeld ?_
        · intro W hSw
          have hee := hee W
          go_simp
        simp only [Act.put, ps]
        refine wpAnyH_take (i := 9) (oi := _) (v := .bool true) rfl (by kernel_rfl) (by kernel_rfl) (by kernel_rfl) (fun _ _ _ h => h) (Or.inl ⟨by rfl, ?_⟩) hHeld ?_
        · intro W hSw
          go_simp
        simp only [Act.put, ps]
        refine wpAnyH_take (i := 10) (oi := _) (v := .bool true) rfl (by kernel_rfl) (by kernel_rfl) (by kernel_rfl) (fun _ _ _ h => h) (Or.inl ⟨by rfl, ?_⟩) hHeld ?_
        · intro W hSw
          go_simp
        simp only [Act.put, ps]
        refine wpAnyH_take (i := 11) (oi := _) (v := .pointer (some ⟨b, 0, none⟩)) rfl (by kernel_rfl) (by kernel_rfl) (by kernel_rfl) (fun _ _ _ h => h) (Or.inl ⟨by rfl, ?_⟩) hHeld ?_
        · intro W hSw
          go_simp
        simp only [Act.put, ps]
        refine wpAnyH_take (i := 13) (oi := _) (v := .slice av na cv) rfl (by kernel_rfl) (by kernel_rfl) (by kernel_rfl) (fun _ _ _ h => h) (Or.inl ⟨by rfl, ?_⟩) hHeld ?_
        · intro W hSw
          go_simp
        simp only [Act.put, ps]
        refine wpAnyH_take (i := 14) (oi := _) (v := .int .i64 na) rfl (by kernel_rfl) (by kernel_rfl) (by kernel_rfl) (fun _ _ _ h => h) (Or.inl ⟨by rfl, ?_⟩) hHeld ?_
        · intro W hSw
          go_simp
        simp only [Act.put, ps]
        refine wpAnyH_ready (rs := [12]) (by kernel_rfl) (by simp) ?_
        refine AllReadyH.cons (o := _) rfl (fun K hK => ?_) AllReadyH.nil
        go_simp
        refine (len_log b x s na w8 (HL6.out.on hs8)).mono ?_
        rintro e w9 ⟨rfl, rfl⟩
        refine hK.out _ _ hs8 (fun hHeld => ?_)
        clear hK K
        refine wpAnyH_take (i := 15) (oi := _) (v := .bool true) rfl (by kernel_rfl) (by kernel_rfl) (by kernel_rfl) (fun _ _ _ h => h) (Or.inl ⟨by rfl, ?_⟩) hHeld ?_
        · intro W hSw
          go_simp
        simp only [Act.put, ps]
        refine wpAnyH_take (i := 16) (oi := _) (v := .bool true) rfl (by kernel_rfl) (by kernel_rfl) (by kernel_rfl) (fun _ _ _ h => h) (Or.inl ⟨by rfl, ?_⟩) hHeld ?_
        · intro W hSw
          go_simp
        simp only [Act.put, ps]
        refine wpAnyH_take (i := 17) (oi := _) (v := .bool true) rfl (by kernel_rfl) (by kernel_rfl) (by kernel_rfl) (fun _ _ _ h => h) (Or.inl ⟨by rfl, ?_⟩) hHeld ?_
        · intro W hSw
          go_simp
        simp only [Act.put, ps]
        refine wpAnyH_done (by kernel_rfl) ?_ _
        have HF : Aside (Below w.heap.size w w8) := new_trans HB6.out hs8
        clear hHeld hs8 hS0 hrg hDl hxx hee hi2 hb8
        go_wp2_with fail
        go_ret
        exact ⟨rfl, HF.out⟩
end Go.Proofs.YtkpmcjfolncmmaaGreatDoor
