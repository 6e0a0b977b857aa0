/- consignlaw30.ChainBack answers true: of any two rows of drafts and any text. -/
import Derived.Test.YtkpmcjfolncmmaaDoorMRcs
import Derived.Test.YtkpmcjfolncmmaaDoorMWrk1
set_option linter.all false
namespace Go.Proofs.YtkpmcjfolncmmaaDoor
open Go.RowKit

/-- Two logs have one text just if they have the same records. -/
theorem text_inj {S : ByteArray → ByteArray} (hS : ∀ x, (S x).size = 32) {a b : List RecD} (ha : AllMay a) (hb : AllMay b) : textF S zero32 a = textF S zero32 b ↔ a = b := by
  constructor
  · intro h
    have h1 := parse_log hS a ha
    have h2 := parse_log hS b hb
    rw [h, h2] at h1
    exact (Prod.mk.inj h1).1.symm
  · rintro rfl; rfl
theorem text_beq {S : ByteArray → ByteArray} (hS : ∀ x, (S x).size = 32) {a b : List RecD} (ha : AllMay a) (hb : AllMay b) : ((textF S zero32 a).toList == (textF S zero32 b).toList) = decide (a = b) := by
  by_cases h : a = b
  · rw [decide_eq_true h, h]; exact str_eq rfl
  · rw [decide_eq_false h]; exact str_ne (fun e => h ((text_inj hS ha hb).1 e))
theorem RecsF.slice {B : Nat} {w : World} {v : Value} {ds : List RecD} (h : RecsF B w v ds) : ∃ a c, v = .slice a ds.length c := by
  obtain ⟨_, _, h2, _⟩ := h
  obtain ⟨a, cap, e, _⟩ := ownsRow_form h2
  exact ⟨a, cap, e⟩

theorem idx_two (a b : ByteArray) (t : Nat) (v : ByteArray) (ht : t < 2) (h : (#[.string a, .string b] : Array Value)[t]? = some (.string v)) (W : World) : (Instr.index 42 (.agg #[.string a, .string b]) (.int .i64 (t : Int))).run Tryd.prog W = .ok (.string v) W := by
  have hu := Tryd.underlying42
  have a1 := Tryd.isAgg9
  have z1 := Tryd.sizeOf9
  simp [Instr.index, go_sem, part, a1, z1, asIntOf, hu]
  rw [if_pos ht, show [Value.string a, Value.string b][t]? = some (.string v) by simpa using h]
  rfl

set_option maxHeartbeats 2000000 in
set_option maxRecDepth 100000 in
theorem back_any (v1 v2 : Value) (n1 n2 : Nat) (hn1 : n1 ≤ 9223372036854775807) (hn2 : n2 ≤ 9223372036854775807) (raw : ByteArray) (hraw : raw.size ≤ 9223372036854775807) (F : S8) (K : Nat → Int) (kk : Array Value) (w : World) (ht : Tabs F K kk w) (h1 : DraftsAt w v1 n1) (h2 : DraftsAt w v2 n2) :
    Calls Tryd.prog 4 #[v1, v2, .string raw] w fun e w' => e = .returned (.bool true) ∧ Below w.heap.size w w' := by
  have HT := aside ht
  have HD1 := aside h1
  have HD2 := aside h2
  clear ht h1 h2
  go_enter Tryd.func4, Tryd.ntmps4
  go_wp2_with fail
  refine (works_any F K kk w HT.out).mono ?_
  rintro e w1 ⟨rfl, hb1⟩
  have HB1 := aside hb1
  clear hb1
  go_wp2_with fail
  refine (records_any v1 n1 hn1 w1 (HD1.out.on HB1.out)).mono ?_
  rintro e w2 ⟨x1, rs, rfl, hr1, hm1, hl1, hb2⟩
  have HR1 := aside hr1
  have HM1 := aside hm1
  have HL1 := aside hl1
  have HB2 := aside (new_trans HB1.out hb2)
  clear hr1 hm1 hl1 hb2
  go_wp2_with fail
  refine (records_any v2 n2 hn2 w2 (HD2.out.on HB2.out)).mono ?_
  rintro e w3 ⟨x2, qs, rfl, hr2, hm2, hl2, hb3⟩
  have HR1a : Aside (RecsAt w3 x1 rs) := (HR1.out.on hb3).at_
  have HR2a : Aside (RecsAt w3 x2 qs) := hr2.at_
  have HM2 := aside hm2
  have HL2 := aside hl2
  have HB3 := aside (new_trans HB2.out hb3)
  clear hr2 hm2 hl2 hb3 HR1
  go_wp2_with fail
  refine (log_any x1 rs (by have := HL1.out; omega) HM1.out F K kk w3 (HT.out.sha.on HB3.out) HR1a.out).mono ?_
  rintro e w4 ⟨rfl, hb4, ha4⟩
  obtain ⟨A, hA⟩ : ∃ x, x = w3.heap.size := ⟨_, rfl⟩
  rw [← hA] at ha4 ⊢
  have HA4 := aside ha4
  have HR1b := aside (HR1a.out.on hb4)
  have HR2b := aside (HR2a.out.on hb4)
  have HB4 := aside (new_trans HB3.out hb4)
  clear ha4 hb4 hA HR1a HR2a
  go_wp2_with fail
  refine (log_any x2 qs (by have := HL2.out; omega) HM2.out F K kk w4 (HT.out.sha.on HB4.out) HR2b.out).mono ?_
  rintro e w5 ⟨rfl, hb5, hc5⟩
  obtain ⟨C, hC⟩ : ∃ x, x = w4.heap.size := ⟨_, rfl⟩
  rw [← hC] at hc5 ⊢
  have HC5 := aside hc5
  have HA5 := aside (HA4.out.on hb5)
  have HR1c := aside (HR1b.out.on hb5)
  have HR2c := aside (HR2b.out.on hb5)
  have HB5 := aside (new_trans HB4.out hb5)
  clear hc5 hb5 hC HR1b HR2b HA4
  obtain ⟨tA, hA⟩ : ∃ x, x = textF (sumB K F) zero32 rs := ⟨_, rfl⟩
  obtain ⟨tC, hC⟩ : ∃ x, x = textF (sumB K F) zero32 qs := ⟨_, rfl⟩
  obtain ⟨q, hq⟩ : ∃ q, q = decide (rs = qs) := ⟨_, rfl⟩
  have heq : (tA.toList == tC.toList) = q := by rw [hA, hC, hq]; exact text_beq (sumB_size K F) HM1.out HM2.out
  have hts : tA.size ≤ 3000 := by
    have := text_le (sumB_size K F) rs zero32 HM1.out
    have := HL1.out
    rw [hA]
    omega
  rw [← hA] at HA5
  rw [← hC] at HC5
  have HTA := aside hA
  have HQ := aside hq
  have HEQ := aside heq
  have HTS := aside hts
  clear hA hC hq heq hts
  go_wp2_with fail
  refine (text_log A tA _ _ w5 HA5.out).mono ?_
  rintro e w6 ⟨rfl, rfl⟩
  go_wp2_with fail
  refine (parse_any tA (by have := HTS.out; omega) F K kk w5 (HT.out.sha.on HB5.out)).mono ?_
  rintro e w6 ⟨hb6, hp6⟩
  rw [HTA.out, parse_log (sumB_size K F) rs HM1.out, if_pos rfl] at hp6
  obtain ⟨x3, rfl, hr3⟩ := hp6
  have HR3 : Aside (RecsAt w6 x3 rs) := hr3.at_
  have HR1d := aside (HR1c.out.on hb6)
  have HR2d := aside (HR2c.out.on hb6)
  have HA6 := aside (HA5.out.on hb6)
  have HC6 := aside (HC5.out.on hb6)
  have HB6 := aside (new_trans HB5.out hb6)
  clear hb6 hr3 HR1c HR2c HA5 HC5
  go_wp2_with fail
  refine (samerecs_any x3 x1 rs rs (by have := HL1.out; omega) (by have := HL1.out; omega) (fun d h => (HM1.out d h).2) (fun d h => (HM1.out d h).2) w6 HR3.out HR1d.out).mono ?_
  rintro e w7 ⟨rfl, hb7⟩
  rw [decide_eq_true rfl]
  have HR1e := aside (HR1d.out.on hb7)
  have HR2e := aside (HR2d.out.on hb7)
  have HA7 := aside (HA6.out.on hb7)
  have HC7 := aside (HC6.out.on hb7)
  have HB7 := aside (new_trans HB6.out hb7)
  clear hb7 HR3 HR1d HR2d HA6 HC6
  go_wp2_with fail
  refine (text_log A tA _ _ w7 HA7.out).mono ?_
  rintro e w8 ⟨rfl, rfl⟩
  go_wp2_with fail
  refine (text_log C tC _ _ w7 HC7.out).mono ?_
  rintro e w8 ⟨rfl, rfl⟩
  go_wp2_with fail
  refine (samerecs_any x1 x2 rs qs (by have := HL1.out; omega) (by have := HL2.out; omega) (fun d h => (HM1.out d h).2) (fun d h => (HM2.out d h).2) w7 HR1e.out HR2e.out).mono ?_
  rintro e w8 ⟨rfl, hb8⟩
  rw [HEQ.out, ← HQ.out]
  have HA8 := aside (HA7.out.on hb8)
  have HB8 := aside (new_trans HB7.out hb8)
  clear hb8 HR1e HR2e HA7 HC7
  have hqq : (q != q) = false := by cases q <;> rfl
  go_upto_region 12 with fail
  obtain ⟨m2, hm2⟩ : ∃ x : Int, x = (if (200 : Int) < raw.size then (200 : Int) else raw.size) := ⟨_, rfl⟩
  have hmr : 0 ≤ m2 ∧ m2 ≤ 200 := by rw [hm2]; split <;> omega
  rw [← hm2]
  obtain ⟨r2, hr2⟩ : ∃ x, x = raw.extract 0 m2.toNat := ⟨_, rfl⟩
  have hz2 : r2.size ≤ 200 := by rw [hr2, ByteArray.size_extract]; omega
  rw [← hr2]
  have HZ2 := aside hz2
  have hcat : ¬ 9223372036854775807 < tA.size + r2.size := by have := HTS.out; omega
  clear hm2 hmr hr2 hraw hqq hz2
  go_wp2_with fail
  refine (text_log A tA _ _ w8 HA8.out).mono ?_
  rintro e w9 ⟨rfl, rfl⟩
  obtain ⟨tt, htt⟩ : ∃ x, x = tA ++ r2 := ⟨_, rfl⟩
  have HTT : Aside (tt.size ≤ 3200) := by
    have := HTS.out
    have := HZ2.out
    rw [Aside, htt, ByteArray.size_append]
    omega
  go_wp2_with fail
  rw [← htt]
  clear htt hcat
  go_loopg [79] 2 (fun g v79 wr => ∃ k : Nat, k ≤ 2 ∧ v79 = .int .i64 k ∧ 2 - k ≤ g ∧ Aside (Below w.heap.size w wr))
  case atStart => exact ⟨0, by omega, rfl, by omega, HB8⟩
  case round =>
    obtain ⟨k, hk, rfl, hg, HB⟩ := hrel
    by_cases hlt : k < 2
    · have hki : (k : Int) < 2 := by omega
      have HME : Aside (∀ q, 2 - k ≤ q → 2 - (k + 1) < q) := fun q h => by omega
      obtain ⟨u, hidx, hu⟩ : ∃ u : ByteArray, (∀ W, (Instr.index 42 (.agg #[.string r2, .string tt]) (.int .i64 k)).run Tryd.prog W = .ok (.string u) W) ∧ u.size ≤ 3200 := by
        match k, hlt with
        | 0, _ => exact ⟨r2, idx_two r2 tt 0 r2 (by omega) rfl, by have := HZ2.out; omega⟩
        | 1, _ => exact ⟨tt, idx_two r2 tt 1 tt (by omega) rfl, HTT.out⟩
      have HU := aside hu
      clear hu
      go_wp2_with fail
      refine (parse_any u (by have := HU.out; omega) F K kk wr (HT.out.sha.on HB.out)).mono ?_
      rintro e w9 ⟨hb9, hp9⟩
      have HB9 := aside (new_trans HB.out hb9)
      obtain ⟨R, hR⟩ : ∃ R, R = parseF (sumB K F) u := ⟨_, rfl⟩
      rw [← hR] at hp9
      clear hidx hb9
      by_cases hc : R.2.1 = 0
      · rw [if_pos hc] at hp9
        obtain ⟨x4, rfl, hr4⟩ := hp9
        obtain ⟨hall, htxt⟩ := log_parse (S := sumB K F) (t := u) (l := R.1) (k := R.2.2) (by rw [← hR, ← hc])
        obtain ⟨rs4, hrs4⟩ : ∃ x, x = R.1 := ⟨_, rfl⟩
        rw [← hrs4] at hr4 hall htxt
        obtain ⟨av, cv, rfl⟩ := hr4.slice
        have HR4 : Aside (RecsAt w9 (.slice av rs4.length cv) rs4) := hr4.at_
        have HALL := aside hall
        have HTX := aside htxt
        have HL4 : Aside (rs4.length ≤ 3200) := by
          have := text_size (sumB_size K F) rs4 zero32
          have := HU.out
          rw [htxt] at this
          rw [Aside]
          omega
        clear hR hc hr4 hall htxt hrs4
        go_wp2_with fail
        refine (log_any (.slice av rs4.length cv) rs4 (by have := HL4.out; omega) HALL.out F K kk w9 (HT.out.sha.on HB9.out) HR4.out).mono ?_
        rintro e w10 ⟨rfl, hb10, ha10⟩
        rw [← HTX.out] at ha10
        obtain ⟨G, hG⟩ : ∃ x, x = w9.heap.size := ⟨_, rfl⟩
        rw [← hG] at ha10 ⊢
        obtain ⟨n4, hn4⟩ : ∃ x, x = rs4.length := ⟨_, rfl⟩
        rw [← hn4] at ha10 ⊢
        have HA10 := aside ha10
        have HB10 := aside (new_trans HB9.out hb10)
        clear hb10 ha10 hG hn4 HR4
        go_wp2_with fail
        refine (text_log G u _ _ w10 HA10.out).mono ?_
        rintro e w11 ⟨rfl, rfl⟩
        have hue : (u.toList != u.toList) = false := by rw [bne, str_eq rfl]; rfl
        go_wp2_with fail
        refine (len_log G u _ n4 w10 HA10.out).mono ?_
        rintro e w11 ⟨rfl, rfl⟩
        have hne : ((n4 : Int) != n4) = false := by simp
        go_wp2_with fail
        go_roundg (2 - (k + 1))
        case measure => exact HME.out _ hg
        case rel => exact ⟨k + 1, hlt, by go_num, Nat.le_refl _, HB10⟩
      · rw [if_neg hc] at hp9
        obtain ⟨f, rfl, _⟩ := hp9
        clear hR hc
        go_wp2_with fail
        go_roundg (2 - (k + 1))
        case measure => exact HME.out _ hg
        case rel => exact ⟨k + 1, hlt, by go_num, Nat.le_refl _, HB9⟩
    · have hki : ¬ (k : Int) < 2 := by omega
      clear hg
      go_wp2_with fail
      go_ret
      exact ⟨rfl, HB.out⟩

end Go.Proofs.YtkpmcjfolncmmaaDoor
