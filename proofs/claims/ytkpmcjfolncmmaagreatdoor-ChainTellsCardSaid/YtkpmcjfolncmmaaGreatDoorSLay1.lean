/- The document's May of any record; consignlaw30.lays answers true. -/
import Derived.Test.YtkpmcjfolncmmaaGreatDoorSRfM3
import Derived.Test.YtkpmcjfolncmmaaGreatDoorSRfL1
import Derived.Test.YtkpmcjfolncmmaaGreatDoorSByt1
import Derived.Test.YtkpmcjfolncmmaaGreatDoorSLaw1
import Derived.BigQuiet
set_option linter.all false
namespace Go.Proofs.YtkpmcjfolncmmaaGreatDoor
open Go.RowKit
set_option maxHeartbeats 1000000 in
theorem len_log (b : Nat) (t s : ByteArray) (n : Int) (w : World) (h : LogAt w b t s n) : Calls Tryz.prog 22 #[.pointer (some ⟨b, 0, none⟩)] w fun e w' => e = .returned (.int .i64 n) ∧ w = w' := by
  have c := h.many
  go_enter Tryz.func22, Tryz.ntmps22
  go_wp2_with fail
  go_ret
  exact ⟨rfl, rfl⟩
set_option maxHeartbeats 1000000 in
set_option maxRecDepth 100000 in
theorem rmay_out (rv : RecV) (d : RecD) (hk : ¬ (1 ≤ d.kind ∧ d.kind ≤ 6)) (w : World) (h : RecAt w rv d) :
    Calls Tryz.prog 19 #[.agg (recCells rv)] w fun e w' => e = .returned (.bool false) ∧ Below w.heap.size w w' := by
  obtain ⟨L, hL⟩ : ∃ x, x = w.heap.size := ⟨_, rfl⟩
  obtain ⟨w0, hw0⟩ : ∃ z, z = w.alloc (.cells (recCells rv) 38) := ⟨_, rfl⟩
  have HN0 : Aside (Below w.heap.size w w0) := by rw [hw0]; exact new_alloc _ _
  have HR0 : Aside (RecIn w0 L rv) := by rw [hw0, hL]; exact RecIn.box _ _
  obtain ⟨k, hkk⟩ : ∃ k, k = d.kind := ⟨_, rfl⟩
  rw [← hkk] at hk
  have HRK : Aside (rv.kind = k) := by obtain ⟨b, l, o, e, _⟩ := h; rw [Aside, hkk, e]; rfl
  have c0 : w0.cell? ⟨L, 0, none⟩ = some (.int .i64 k) := by rw [← HRK.out]; exact HR0.out.kind
  clear h hkk
  by_cases h1 : k < 1
  · have e1 : decide (k < 1) = true := decide_eq_true h1
    clear hk
    go_enter Tryz.func19, Tryz.ntmps19
    go_upto_region 1 with fail
    rw [← hw0, ← hL]
    clear hw0 hL
    go_quiet (fail)
    have HB : Aside (Below w.heap.size w (w0.drewN nq)) := st_new w _ _ HN0.out (new_drewN _ _)
    clear c0
    generalize w0.drewN nq = w1 at HB ⊢
    go_wp2_with fail
    go_ret
    exact ⟨rfl, HB.out⟩
  · have e1 : decide (k < 1) = false := decide_eq_false h1
    have h6 : 6 < k := by omega
    have e6 : decide (6 < k) = true := decide_eq_true h6
    clear hk
    go_enter Tryz.func19, Tryz.ntmps19
    go_upto_region 1 with fail
    rw [← hw0, ← hL]
    clear hw0 hL
    go_quiet (fail)
    have HB : Aside (Below w.heap.size w (w0.drewN nq)) := st_new w _ _ HN0.out (new_drewN _ _)
    clear c0
    generalize w0.drewN nq = w1 at HB ⊢
    go_wp2_with fail
    go_ret
    exact ⟨rfl, HB.out⟩
theorem rmayd_any (rv : RecV) (d : RecD) (ho : d.ok) (w : World) (h : RecAt w rv d) :
    Calls Tryz.prog 19 #[.agg (recCells rv)] w fun e w' => e = .returned (.bool (mayB d)) ∧ Below w.heap.size w w' := by
  by_cases hk : 1 ≤ d.kind ∧ d.kind ≤ 6
  · rw [← mayRB_eq d hk]
    exact rmay_any rv d hk ho.len ho.rows w h
  · have e : mayB d = false := by
      cases hm : mayB d with
      | false => rfl
      | true => exact absurd (may_kind hm) hk
    rw [e]
    exact rmay_out rv d hk w h
def LaysPost (S : ByteArray → ByteArray) (b : Nat) (t s : ByteArray) (n : Int) (d : RecD) (w : World) (e : Ending) (w' : World) : Prop :=
  e = .returned (.bool true) ∧ Keeps (· ≠ b) w w' ∧ if mayB d = true then LogAt w' b (t ++ entryF S s d) (S (s ++ bytesF d)) (n + 1) else LogAt w' b t s n
set_option maxHeartbeats 1000000 in
set_option maxRecDepth 100000 in
theorem lays_any (b : Nat) (t s : ByteArray) (n : Int) (hn : 0 ≤ n ∧ n ≤ 1000000) (hts : t.size ≤ 1000000) (rv : RecV) (d : RecD) (ho : d.ok) (F : S8) (K : Nat → Int) (kk : Array Value) (w : World) (ht : ShaTabs F K kk w) (h : LogAt w b t s n) (hr : RecAt w rv d) (hrk : ∀ W, Keeps (· ≠ b) w W → RecAt W rv d) :
    Calls Tryz.prog 18 #[.pointer (some ⟨b, 0, none⟩), .agg (recCells rv)] w (LaysPost (sumB K F) b t s n d w) := by
  have hi0 : (Tryz.prog.info? 38).map (·.size) = some (recCells rv).size := by rw [recCells_size]; kernel_rfl
  obtain ⟨L, hL⟩ : ∃ x, x = w.heap.size := ⟨_, rfl⟩
  obtain ⟨w0, hw0⟩ : ∃ z, z = w.alloc (.cells (recCells rv) 38) := ⟨_, rfl⟩
  have HN0 : Aside (Below w.heap.size w w0) := by rw [hw0]; exact new_alloc _ _
  have HR0 : Aside (RecIn w0 L rv) := by rw [hw0, hL]; exact RecIn.box _ _
  have HLG := aside (h.on HN0.out)
  have HT := aside (ht.on HN0.out)
  have HRA := aside (hr.on HN0.out)
  have HRK := aside hrk
  have HO := aside ho
  have HN := aside hn
  have HTS := aside hts
  have hbL : b ≠ L := by rw [hL]; exact Nat.ne_of_lt h.sum.lt
  clear ht h hr hrk ho hn hts
  go_enter Tryz.func18, Tryz.ntmps18
  go_upto_region 1 with fail
  rw [← hw0, ← hL]
  clear hw0 hL
  go_wp2_with (first
    | (refine wpList_load_row rfl _ _ rfl L rfl _ (recCells rv) (0, 0) _ HR0.out Tryz.underlying38 rfl hi0 ?_)
    | fail)
  refine (bytes_any rv d HO.out w0 HRA.out).mono ?_
  rintro e w1 ⟨rfl, hb1⟩
  have HK1 : Aside (Keeps (· ≠ b) w w1) := keeps_of_new (new_trans HN0.out hb1) _
  have HL1 := aside (HLG.out.on hb1)
  have HT1 := aside (HT.out.on hb1)
  have HR1 := aside (HR0.out.new hb1)
  have HRA1 := aside (HRA.out.on hb1)
  clear hb1 HLG HT HR0 HRA
  obtain ⟨a, ha⟩ : ∃ a, a = (bytesA d).1 := ⟨_, rfl⟩
  obtain ⟨c, hc⟩ : ∃ c, c = (bytesA d).2 := ⟨_, rfl⟩
  rw [← ha, ← hc]
  have HAA := aside ha
  have HCC := aside hc
  clear ha hc
  go_wp2_with fail
  refine (len_log b t s n w1 HL1.out).mono ?_
  rintro e w2 ⟨rfl, hw2⟩
  rw [← hw2]
  clear hw2 w2
  go_wp2_with fail
  refine (text_log b t s n w1 HL1.out).mono ?_
  rintro e w2 ⟨rfl, hw2⟩
  rw [← hw2]
  clear hw2 w2
  go_wp2_with (first
    | (refine wpList_load_row rfl _ _ rfl L rfl _ (recCells rv) (0, 0) _ HR1.out Tryz.underlying38 rfl hi0 ?_)
    | fail)
  refine (add_log b t s n ⟨HN.out.1, by have := HN.out; omega⟩ (by have := HTS.out; omega) rv d HO.out F K kk w1 HT1.out HL1.out HRA1.out).mono ?_
  rintro e w3 ⟨hk3, ha3⟩
  have HK3 : Aside (Keeps (· ≠ b) w w3) := HK1.out.trans hk3
  have HR3 : Aside (RecIn w3 L rv) := whole_keeps HR1.out hk3 (Ne.symm hbL)
  have HRA3 : Aside (RecAt w3 rv d) := HRK.out w3 HK3.out
  clear HK1 HL1 HT1 HR1 HRA1 hk3
  cases hm : mayB d with
  | false =>
    rw [hm, if_neg (by decide)] at ha3
    obtain ⟨rfl, hl3⟩ := ha3
    have HL3 := aside hl3
    have e1 : a = ⟨#[]⟩ := by rw [HAA.out, bytesA, hm, if_neg (by decide)]
    have e2 : c = 15 := by rw [HCC.out, bytesA, hm, if_neg (by decide)]
    subst e1
    subst e2
    have HM := aside hm
    clear hl3 hm
    go_wp2_with (first
      | (refine wpList_load_row rfl _ _ rfl L rfl _ (recCells rv) (0, 0) _ HR3.out Tryz.underlying38 rfl hi0 ?_)
      | fail)
    refine (rmayd_any rv d HO.out w3 HRA3.out).mono ?_
    rintro e w4 ⟨rfl, hb4⟩
    rw [HM.out]
    have HK4 : Aside (Keeps (· ≠ b) w w4) := HK3.out.trans (keeps_of_new hb4 _)
    have HL4 := aside (HL3.out.on hb4)
    clear hb4 HL3 HK3 HR3 HRA3
    go_wp2_with fail
    refine (len_log b t s n w4 HL4.out).mono ?_
    rintro e w5 ⟨rfl, hw5⟩
    rw [← hw5]
    clear hw5 w5
    have hnn : (n == n) = true := beq_self_eq_true n
    go_wp2_with fail
    refine (text_log b t s n w4 HL4.out).mono ?_
    rintro e w5 ⟨rfl, hw5⟩
    rw [← hw5]
    clear hw5 w5
    have htt : (t.toList == t.toList) = true := str_eq rfl
    go_wp2_with fail
    go_ret
    refine ⟨rfl, HK4.out, ?_⟩
    rw [HM.out, if_neg (by decide)]
    exact HL4.out
  | true =>
    rw [hm, if_pos rfl] at ha3
    obtain ⟨rfl, hl3⟩ := ha3
    have HL3 := aside hl3
    have e1 : a = bytesF d := by rw [HAA.out, bytesA, hm, if_pos rfl]
    have e2 : c = 0 := by rw [HCC.out, bytesA, hm, if_pos rfl]
    subst e2
    have HM := aside hm
    have HA1 := aside e1
    clear hl3 hm e1
    go_wp2_with (first
      | (refine wpList_load_row rfl _ _ rfl L rfl _ (recCells rv) (0, 0) _ HR3.out Tryz.underlying38 rfl hi0 ?_)
      | fail)
    refine (rmayd_any rv d HO.out w3 HRA3.out).mono ?_
    rintro e w4 ⟨rfl, hb4⟩
    rw [HM.out]
    have HK4 : Aside (Keeps (· ≠ b) w w4) := HK3.out.trans (keeps_of_new hb4 _)
    have HL4 := aside (HL3.out.on hb4)
    have HR4 := aside (HR3.out.new hb4)
    have HRA4 := aside (HRA3.out.on hb4)
    clear hb4 HL3 HK3 HR3 HRA3
    go_wp2_with (first
      | (refine wpList_load_row rfl _ _ rfl L rfl _ (recCells rv) (0, 0) _ HR4.out Tryz.underlying38 rfl hi0 ?_)
      | fail)
    refine (rbytes_any rv d HO.out HM.out w4 HRA4.out).mono ?_
    rintro e w5 ⟨rfl, hb5⟩
    rw [← HA1.out]
    have HK5 : Aside (Keeps (· ≠ b) w w5) := HK4.out.trans (keeps_of_new hb5 _)
    have HL5 := aside (HL4.out.on hb5)
    clear hb5 HL4 HK4 HR4 HRA4
    have haa : (a.toList == a.toList) = true := str_eq rfl
    go_wp2_with fail
    refine (len_log b _ _ (n + 1) w5 HL5.out).mono ?_
    rintro e w6 ⟨rfl, hw6⟩
    rw [← hw6]
    clear hw6 w6
    have hwn : IntKind.i64.wrap (n + 1) = n + 1 := IntWalk.i64_in _ (by have := HN.out; omega)
    have hnn : (n + 1 == n + 1) = true := beq_self_eq_true _
    go_wp2_with fail
    go_ret
    refine ⟨rfl, HK5.out, ?_⟩
    rw [HM.out, if_pos rfl]
    exact HL5.out
end Go.Proofs.YtkpmcjfolncmmaaGreatDoor
