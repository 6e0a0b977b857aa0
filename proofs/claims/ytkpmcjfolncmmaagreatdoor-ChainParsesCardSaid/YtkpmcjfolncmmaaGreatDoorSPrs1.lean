/- consignref24.SameRecords, walked. -/
import Derived.Test.YtkpmcjfolncmmaaGreatDoorSWrk1
import Derived.Test.YtkpmcjfolncmmaaGreatDoorSSame2
import Derived.Deep.RegionHeld3
import Derived.Test.YtkpmcjfolncmmaaGreatDoorSTold1
import Derived.Test.YtkpmcjfolncmmaaGreatDoorSNxr
import Derived.Test.YtkpmcjfolncmmaaGreatDoorSLaw1
set_option linter.all false
namespace Go.Proofs.YtkpmcjfolncmmaaGreatDoor
open Go.RowKit
theorem cell_lt_range {w : World} {b o : Nat} {cs : List Value} (h : w.rangeAt b o cs) (hl : 0 < cs.length) : b < w.heap.size := by
  cases cs with
  | nil => exact absurd hl (Nat.lt_irrefl _)
  | cons c cs => exact cell_lt (h 0 c rfl)
set_option maxHeartbeats 2000000 in
set_option maxRecDepth 100000 in
theorem samerecs_any (v1 v2 : Value) (xs ys : List RecD) (hx : xs.length ≤ 1000000) (hy : ys.length ≤ 1000000) (hxo : ∀ d ∈ xs, d.ok) (hyo : ∀ d ∈ ys, d.ok) (w : World) (h1 : RecsAt w v1 xs) (h2 : RecsAt w v2 ys) :
    Calls Tryz.prog 46 #[v1, v2] w fun e w' => e = .returned (.bool (decide (xs = ys))) ∧ Below w.heap.size w w' := by
  obtain ⟨a1, c1, rv1, rfl, hc1, hj1, hr1⟩ := h1
  obtain ⟨a2, c2, rv2, rfl, hc2, hj2, hr2⟩ := h2
  have HJ1 := aside hj1
  have HR1 := aside hr1
  have HJ2 := aside hj2
  have HR2 := aside hr2
  have HXO := aside hxo
  have HYO := aside hyo
  obtain ⟨n, hn⟩ : ∃ n, n = xs.length := ⟨_, rfl⟩
  obtain ⟨m, hm⟩ : ∃ m, m = ys.length := ⟨_, rfl⟩
  rw [← hn] at hx hc1 ⊢
  rw [← hm] at hy hc2 ⊢
  have HN := aside hn
  have HM := aside hm
  clear hn hm hj1 hr1 hj2 hr2 hxo hyo
  go_enter Tryz.func46, Tryz.ntmps46
  by_cases hnm : n = m
  case neg =>
    have HR : Aside (decide (xs = ys) = false) := decide_eq_false (fun e => hnm (by rw [HN.out, HM.out, e]))
    have e1 : ((n : Int) != m) = true := by simp; omega
    clear hnm
    go_wp2_with fail
    go_ret
    exact ⟨by rw [HR.out]; rfl, Below.refl _ _⟩
  subst hnm
  go_wp2_with fail
  go_loopg [5] n (fun g v5 wr => ∃ k : Nat, k ≤ n ∧ v5 = .int .i64 k ∧ n - k ≤ g ∧ Aside (∀ j, j < k → xs.getD j {} = ys.getD j {}) ∧ Aside (Below w.heap.size w wr))
  case atStart => exact ⟨0, by omega, rfl, by omega, fun j h => by omega, Below.refl _ _⟩
  case round =>
    obtain ⟨k, hk, rfl, hg, HA, HB⟩ := hrel
    by_cases hlt : k < n
    · have hki : (k : Int) < n := by omega
      have HME : Aside (∀ q, n - k ≤ q → n - (k + 1) < q) := fun q h => by omega
      obtain ⟨lb, lo, rfl, hlb, hj⟩ := HJ1.out (by rw [← HN.out]; omega)
      obtain ⟨lb', lo', rfl, hlb', hj'⟩ := HJ2.out (by rw [← HM.out]; omega)
      obtain ⟨p, hp⟩ : ∃ p, p = rv1 k := ⟨_, rfl⟩
      obtain ⟨q, hq⟩ : ∃ q, q = rv2 k := ⟨_, rfl⟩
      have hrg : wr.rangeAt lb (lo + k * 49) (recCells p).toList := by rw [hp]; exact rangeAt_on (hj k (by rw [← HN.out]; exact hlt)) hlb HB.out
      have hrg' : wr.rangeAt lb' (lo' + k * 49) (recCells q).toList := by rw [hq]; exact rangeAt_on (hj' k (by rw [← HM.out]; exact hlt)) hlb' HB.out
      obtain ⟨d, hd⟩ : ∃ d, d = xs.getD k {} := ⟨_, rfl⟩
      obtain ⟨e, he⟩ : ∃ e, e = ys.getD k {} := ⟨_, rfl⟩
      have HP : Aside (RecAt wr p d) := by rw [hp, hd]; exact (HR1.out k (by rw [← HN.out]; exact hlt)).on HB.out
      have HQ : Aside (RecAt wr q e) := by rw [hq, he]; exact (HR2.out k (by rw [← HM.out]; exact hlt)).on HB.out
      have HDO : Aside d.ok := HXO.out d (by rw [hd, List.getD_eq_getElem?_getD, List.getElem?_eq_getElem (show k < xs.length by rw [← HN.out]; exact hlt)]; exact List.getElem_mem _)
      have HEO : Aside e.ok := HYO.out e (by rw [he, List.getD_eq_getElem?_getD, List.getElem?_eq_getElem (show k < ys.length by rw [← HM.out]; exact hlt)]; exact List.getElem_mem _)
      have HD := aside hd
      have HE := aside he
      obtain ⟨cp, hcp⟩ : ∃ cp, cp = (recCells p).toList := ⟨_, rfl⟩
      obtain ⟨cq, hcq⟩ : ∃ cq, cq = (recCells q).toList := ⟨_, rfl⟩
      rw [← hcp] at hrg
      rw [← hcq] at hrg'
      have hi1 : (Tryz.prog.info? 38).map (·.size) = some cp.length := by rw [hcp, Array.length_toList, recCells_size]; kernel_rfl
      have hi2 : (Tryz.prog.info? 38).map (·.size) = some cq.length := by rw [hcq, Array.length_toList, recCells_size]; kernel_rfl
      have hl1 : 0 < cp.length := by rw [hcp, Array.length_toList, recCells_size]; decide
      have hl2 : 0 < cq.length := by rw [hcq, Array.length_toList, recCells_size]; decide
      have HCP : Aside (cp.toArray = recCells p) := by rw [Aside, hcp, Array.toArray_toList]
      have HCQ : Aside (cq.toArray = recCells q) := by rw [Aside, hcq, Array.toArray_toList]
      clear hj hj' hp hq hd he hcp hcq
      obtain ⟨o1, ho1⟩ : ∃ o, o = lo + k * 49 := ⟨_, rfl⟩
      obtain ⟨o2, ho2⟩ : ∃ o, o = lo' + k * 49 := ⟨_, rfl⟩
      have hld1 : ∀ W : World, (W.rangeAt lb (lo + k * 49) cp ∧ W.rangeAt lb' (lo' + k * 49) cq) → (Instr.loadAt 38 (.pointer (some ⟨lb, lo + k * 49, none⟩))).run Tryz.prog W = .ok (.agg cp.toArray) W := fun W h => run_loadAt_mid W lb (lo + k * 49) 38 cp _ h.1 Tryz.underlying38 rfl hi1
      have hld2 : ∀ W : World, (W.rangeAt lb (lo + k * 49) cp ∧ W.rangeAt lb' (lo' + k * 49) cq) → (Instr.loadAt 38 (.pointer (some ⟨lb', lo' + k * 49, none⟩))).run Tryz.prog W = .ok (.agg cq.toArray) W := fun W h => run_loadAt_mid W lb' (lo' + k * 49) 38 cq _ h.2 Tryz.underlying38 rfl hi2
      clear ho1 ho2
      go_upto_region 6 with fail
      have hS0 : (fun W : World => W.rangeAt lb (lo + k * 49) cp ∧ W.rangeAt lb' (lo' + k * 49) cq) wr.drew := ⟨rangeAt_on hrg (cell_lt_range hrg hl1) (new_drew _), rangeAt_on hrg' (cell_lt_range hrg' hl2) (new_drew _)⟩
      refine wp_region_held_drew (S := fun W => W.rangeAt lb (lo + k * 49) cp ∧ W.rangeAt lb' (lo' + k * 49) cq) (by kernel_rfl) hS0 (fun hHeld => ?_)
      refine wpAnyH_take (i := 0) (oi := _) (v := .slice (some ⟨lb, lo, none⟩) n c1) rfl (by kernel_rfl) (by kernel_rfl) (by kernel_rfl) (fun _ _ _ h => h) (Or.inl ⟨by rfl, ?_⟩) hHeld ?_
      · intro w hSw
        go_simp
      simp only [Act.put, ps]
      refine wpAnyH_take (i := 1) (oi := _) (v := .int .i64 k) rfl (by kernel_rfl) (by kernel_rfl) (by kernel_rfl) (fun _ _ _ h => h) (Or.inl ⟨by rfl, ?_⟩) hHeld ?_
      · intro w hSw
        go_simp
      simp only [Act.put, ps]
      refine wpAnyH_take (i := 2) (oi := _) (v := .pointer (some ⟨lb, lo + k * 49, none⟩)) rfl (by kernel_rfl) (by kernel_rfl) (by kernel_rfl) (fun _ _ _ h => h) (Or.inl ⟨by rfl, ?_⟩) hHeld ?_
      · intro w hSw
        go_simp
      simp only [Act.put, ps]
      refine wpAnyH_take (i := 3) (oi := _) (v := .agg cp.toArray) rfl (by kernel_rfl) (by kernel_rfl) (by kernel_rfl) (fun _ _ _ h => h) (yieldsIf_load_mid (by rfl) 38 (.tmp 19) rfl lb (lo + k * 49) rfl cp _ (fun W hW => hW.1) Tryz.underlying38 rfl hi1) hHeld ?_
      simp only [Act.put, ps]
      refine wpAnyH_take (i := 4) (oi := _) (v := .slice (some ⟨lb', lo', none⟩) n c2) rfl (by kernel_rfl) (by kernel_rfl) (by kernel_rfl) (fun _ _ _ h => h) (Or.inl ⟨by rfl, ?_⟩) hHeld ?_
      · intro w hSw
        go_simp
      simp only [Act.put, ps]
      refine wpAnyH_take (i := 5) (oi := _) (v := .int .i64 k) rfl (by kernel_rfl) (by kernel_rfl) (by kernel_rfl) (fun _ _ _ h => h) (Or.inl ⟨by rfl, ?_⟩) hHeld ?_
      · intro w hSw
        go_simp
      simp only [Act.put, ps]
      refine wpAnyH_take (i := 6) (oi := _) (v := .pointer (some ⟨lb', lo' + k * 49, none⟩)) rfl (by kernel_rfl) (by kernel_rfl) (by kernel_rfl) (fun _ _ _ h => h) (Or.inl ⟨by rfl, ?_⟩) hHeld ?_
      · intro w hSw
        go_simp
      simp only [Act.put, ps]
      refine wpAnyH_take (i := 7) (oi := _) (v := .agg cq.toArray) rfl (by kernel_rfl) (by kernel_rfl) (by kernel_rfl) (fun _ _ _ h => h) (yieldsIf_load_mid (by rfl) 38 (.tmp 23) rfl lb' (lo' + k * 49) rfl cq _ (fun W hW => hW.2) Tryz.underlying38 rfl hi2) hHeld ?_
      simp only [Act.put, ps]
      rw [HCP.out, HCQ.out]
      refine wpAnyH_ready (rs := [8]) (by kernel_rfl) (by simp) ?_
      refine AllReadyH.cons (o := _) rfl (fun K hK => ?_) AllReadyH.nil
      go_simp
      refine (same_any p q d e HDO.out.len HEO.out.len ?_ ?_ _ ?_ ?_).mono ?_
      · exact HDO.out.rows
      · exact HEO.out.rows
      · exact HP.out.on (new_drew _)
      · exact HQ.out.on (new_drew _)
      rintro ev w3 ⟨rfl, hbx⟩
      have HB3 : Aside (Below w.heap.size w w3) := new_trans HB.out (new_trans (new_drew _) (hbx.mono (by simp)))
      have hs3 : (fun W : World => W.rangeAt lb (lo + k * 49) cp ∧ W.rangeAt lb' (lo' + k * 49) cq) w3 := ⟨rangeAt_on hHeld.1 (by simpa using cell_lt_range hrg hl1) hbx, rangeAt_on hHeld.2 (by simpa using cell_lt_range hrg' hl2) hbx⟩
      refine hK.out _ _ hs3 (fun hHeld => ?_)
      clear hK K
      by_cases hde : d = e
      case neg =>
        have HR : Aside (decide (xs = ys) = false) := decide_eq_false (fun x => hde (by rw [HD.out, HE.out, x]))
        rw [decide_eq_false hde]
        refine wpAnyH_take (i := 9) (oi := _) (v := .bool true) rfl (by kernel_rfl) (by kernel_rfl) (by kernel_rfl) (fun _ _ _ h => h) (Or.inl ⟨by rfl, ?_⟩) hHeld ?_
        · intro w hSw
          go_simp
        simp only [Act.put, ps]
        refine wpAnyH_done (by kernel_rfl) ?_ _
        clear hHeld hs3 hS0 hrg hrg' hld1 hld2
        go_wp2_with fail
        go_ret
        exact ⟨by rw [HR.out]; rfl, HB3.out⟩
      case pos =>
        rw [decide_eq_true hde]
        refine wpAnyH_take (i := 9) (oi := _) (v := .bool false) rfl (by kernel_rfl) (by kernel_rfl) (by kernel_rfl) (fun _ _ _ h => h) (Or.inl ⟨by rfl, ?_⟩) hHeld ?_
        · intro w hSw
          go_simp
        simp only [Act.put, ps]
        refine wpAnyH_done (by kernel_rfl) ?_ _
        have HA1 : Aside (∀ j, j < k + 1 → xs.getD j {} = ys.getD j {}) := fun j hj => by
          by_cases hjk : j = k
          · rw [hjk, ← HD.out, ← HE.out, hde]
          · exact HA.out j (by omega)
        clear hHeld hs3 hS0 hrg hrg' hld1 hld2 HA hde
        go_wp2_with fail
        go_roundg (n - (k + 1))
        case measure => exact HME.out _ hg
        case rel => exact ⟨k + 1, hlt, by go_num, Nat.le_refl _, HA1, HB3⟩
    · have hki : ¬ (k : Int) < n := by omega
      have hkn : k = n := by omega
      have HR : Aside (decide (xs = ys) = true) := decide_eq_true (list_ext_getD {} (by rw [← HN.out, ← HM.out]) (fun j hj => HA.out j (by rw [hkn, HN.out]; exact hj)))
      clear hkn hlt HA hg
      go_wp2_with fail
      go_ret
      exact ⟨by rw [HR.out]; rfl, HB.out⟩
end Go.Proofs.YtkpmcjfolncmmaaGreatDoor
namespace Go.Proofs.YtkpmcjfolncmmaaGreatDoor
open Go.RowKit
set_option maxHeartbeats 1000000 in
set_option maxRecDepth 100000 in
theorem told_nil (w : World) : Calls Tryz.prog 45 #[.nilIface] w fun ev w' => ev = .returned (.agg #[.int .i64 0, .int .i64 0, .int .i64 0]) ∧ Below w.heap.size w w' := by
  obtain ⟨R, hR⟩ : ∃ x, x = w.heap.size := ⟨_, rfl⟩
  obtain ⟨w2, hw2⟩ : ∃ z, z = (w.alloc (.cells #[.int .i64 0, .int .i64 0, .int .i64 0] 96)).alloc (.cells #[.pointer none] 141) := ⟨_, rfl⟩
  have HN2 : Aside (Below w.heap.size w w2) := by rw [hw2]; exact new_trans (new_alloc _ _) (new_alloc _ _)
  have HR : Aside (w2.heap[R]? = some (.cells #[.int .i64 0, .int .i64 0, .int .i64 0] 96 (0, 0))) := by rw [hw2, hR]; exact whole_new (heap_new _ _) (new_alloc _ _)
  have HRW := aside hR
  go_enter Tryz.func45, Tryz.ntmps45
  go_wp2_with fail
  rw [← hw2, ← hR]
  clear hw2 hR
  refine (as_nil _ w2).mono ?_
  rintro ev w3 ⟨rfl, hw⟩
  rw [hw]
  clear hw w3
  go_wp2_with fail
  obtain ⟨w4, hw4⟩ : ∃ z, z = w2.alloc (.cells #[.int .i64 0] 41) := ⟨_, rfl⟩
  have HN4 : Aside (Below w.heap.size w w4) := by rw [hw4]; exact st_new w _ _ HN2.out (new_alloc _ _)
  have HR4 : Aside (w4.heap[R]? = some (.cells #[.int .i64 0, .int .i64 0, .int .i64 0] 96 (0, 0))) := by rw [hw4]; exact whole_new HR.out (new_alloc _ _)
  rw [← hw4]
  clear hw4
  refine (as_nil _ w4).mono ?_
  rintro ev w5 ⟨rfl, hw⟩
  rw [hw]
  clear hw w5
  have hi3 : (Tryz.prog.info? 96).map (·.size) = some 3 := by kernel_rfl
  go_wp2_with (first
    | (refine wpList_store_row rfl _ _ _ rfl R #[.int .i64 0, .int .i64 0, .int .i64 0] rfl rfl 96 _ HR4.out hi3 rfl (by simp [Value.oneCell']) ?_; rw [setRow_self _ _ _ _ _ HR4.out])
    | fail)
  exact bodyPost_ret (results_cell_row rfl _ _ R 96 #[.int .i64 0, .int .i64 0, .int .i64 0] (0, 0) _ rfl HR4.out Tryz.underlying96 rfl hi3) rfl ⟨rfl, HN4.out⟩
end Go.Proofs.YtkpmcjfolncmmaaGreatDoor
namespace Go.Proofs.YtkpmcjfolncmmaaGreatDoor
open Go.RowKit
theorem parse_place (S : ByteArray → ByteArray) : ∀ (n : Nat) (s t : ByteArray) (acc : List RecD), (parseA S n s t acc).2.1 = 0 → (parseA S n s t acc).2.2 = 0
  | 0, _, _, _, _ => rfl
  | n + 1, s, t, acc, h => by
    rw [parseA] at h ⊢
    by_cases h0 : t.size = 0
    · rw [if_pos h0]
    · rw [if_neg h0] at h ⊢
      by_cases hc : codeF S s t = 0
      · rw [if_pos hc] at h ⊢; exact parse_place S n _ _ _ h
      · rw [if_neg hc] at h; exact absurd h hc
theorem parse_len (S : ByteArray → ByteArray) : ∀ (n : Nat) (s t : ByteArray) (acc : List RecD), (∀ d ∈ acc, d.ok) → acc.length * 34 + t.size ≤ 1000000 → (parseA S n s t acc).1.length ≤ 1000000 ∧ ∀ d ∈ (parseA S n s t acc).1, d.ok
  | 0, _, _, acc, ho, h => ⟨by show acc.length ≤ _; omega, ho⟩
  | n + 1, s, t, acc, ho, h => by
    rw [parseA]
    by_cases h0 : t.size = 0
    · rw [if_pos h0]; exact ⟨by show acc.length ≤ _; omega, ho⟩
    · rw [if_neg h0]
      by_cases hc : codeF S s t = 0
      · rw [if_pos hc]
        have h1 := restF_size t (codeF_le hc)
        refine parse_len S n _ _ _ (fun d hd => ?_) (by rw [List.length_append, List.length_cons, List.length_nil]; omega)
        rcases List.mem_append.1 hd with hd | hd
        · exact ho d hd
        · rw [List.mem_singleton] at hd
          subst hd
          exact read_ok _
      · rw [if_neg hc]
        exact ⟨by simp, fun d hd => by simp at hd⟩
theorem parse_none (S : ByteArray → ByteArray) : ∀ (n : Nat) (s t : ByteArray) (acc : List RecD), ¬ (parseA S n s t acc).2.1 = 0 → (parseA S n s t acc).1 = []
  | 0, _, _, _, h => absurd rfl h
  | n + 1, s, t, acc, h => by
    rw [parseA] at h ⊢
    by_cases h0 : t.size = 0
    · rw [if_pos h0] at h; exact absurd rfl h
    · rw [if_neg h0] at h ⊢
      by_cases hc : codeF S s t = 0
      · rw [if_pos hc] at h ⊢; exact parse_none S n _ _ _ h
      · rw [if_neg hc]
theorem flt_keep {X : Nat} {a b c : Int} {w W : World} (h0 : w.cell? ⟨X, 0, none⟩ = some (.int .i64 a)) (h1 : w.cell? ⟨X, 1, none⟩ = some (.int .i64 b)) (h2 : w.cell? ⟨X, 2, none⟩ = some (.int .i64 c)) (hb : Aside (Below w.heap.size w W)) :
    W.cell? ⟨X, 0, none⟩ = some (.int .i64 a) ∧ W.cell? ⟨X, 1, none⟩ = some (.int .i64 b) ∧ W.cell? ⟨X, 2, none⟩ = some (.int .i64 c) ∧ Aside (Below w.heap.size w W) :=
  ⟨(hb.out.cell (cell_lt h0)).trans h0, (hb.out.cell (cell_lt h1)).trans h1, (hb.out.cell (cell_lt h2)).trans h2, hb⟩
set_option maxHeartbeats 1000000 in
set_option maxRecDepth 100000 in
theorem parses_any (t : ByteArray) (hts : t.size ≤ 1000000) (kk : Array Value) (w : World) (ht : Tabs refF refK kk w) :
    Calls Tryz.prog 15 #[.string t] w fun e w' => e = .returned (.bool true) ∧ Below w.heap.size w w' := by
  have HT := aside ht
  have HTS := aside hts
  obtain ⟨R, hR⟩ : ∃ R, R = parseF (sumB refK refF) t := ⟨_, rfl⟩
  have HPL : Aside (R.2.1 = 0 → R.2.2 = 0) := by rw [hR]; exact parse_place _ _ _ _ _
  have HLN : Aside (R.1.length ≤ 1000000 ∧ ∀ d ∈ R.1, d.ok) := by rw [hR]; exact parse_len _ _ _ _ _ (fun d hd => by simp at hd) (by simp; omega)
  have HR := aside hR
  clear ht hts hR
  go_enter Tryz.func15, Tryz.ntmps15
  go_wp2_with fail
  refine (parse_any t HTS.out refF refK kk w HT.out.sha).mono ?_
  intro e w1 hr
  rw [← HR.out] at hr
  obtain ⟨hb1, hr⟩ := hr
  have HB1 := aside hb1
  clear hb1
  obtain ⟨c, hc⟩ : ∃ c, c = R.2.1 := ⟨_, rfl⟩
  obtain ⟨n, hn⟩ : ∃ n, n = R.2.2 := ⟨_, rfl⟩
  obtain ⟨ds, hds⟩ : ∃ ds, ds = R.1 := ⟨_, rfl⟩
  rw [← hc, ← hn] at HPL
  rw [← hds] at HLN
  rw [← hc, ← hn, ← hds] at hr
  have HCC := aside hc
  have HNN := aside hn
  have HDS := aside hds
  have heq := fun W => eqFault c 0 n c 0 n W
  have hbb : (c == c && ((0 : Int) == 0 && (n : Int) == n)) = true := by simp
  simp only [hbb] at heq
  have HEQ := aside heq
  clear hc hn hds hbb heq
  by_cases h0 : c = 0
  · rw [if_pos h0] at hr
    obtain ⟨v, rfl, hrs⟩ := hr
    have HV := aside hrs
    have hn0 : n = 0 := HPL.out h0
    clear hrs
    go_wp2_with fail
    refine (rparse_any t HTS.out w1).mono ?_
    rintro e w2 ⟨v2, rfl, hrs2, hb2⟩
    rw [← HR.out] at hrs2 ⊢
    rw [← HCC.out, ← HNN.out]
    rw [← HDS.out] at hrs2
    subst h0
    subst hn0
    rw [show (((0 : Nat) : Nat) : Int) = 0 from rfl] at HEQ ⊢
    have HV1 := aside ((HV.out.on hb2).at_)
    have HV2 := aside (hrs2.at_)
    have HB2 := aside (new_trans HB1.out hb2)
    clear hrs2 hb2 HV HB1
    go_upto_region 3 with fail
    obtain ⟨X, hX⟩ : ∃ x, x = w2.heap.size := ⟨_, rfl⟩
    obtain ⟨w3, hw3⟩ : ∃ z, z = w2.alloc (.cells #[.int .i64 0, .int .i64 0, .int .i64 0] 96) := ⟨_, rfl⟩
    have hh : w3.heap[X]? = some (.cells #[.int .i64 0, .int .i64 0, .int .i64 0] 96 (0, 0)) := by rw [hw3, hX]; exact heap_new _ _
    have hn3 : Below w2.heap.size w2 w3 := by rw [hw3]; exact new_alloc _ _
    have HV1b := aside (HV1.out.on hn3)
    have HV2b := aside (HV2.out.on hn3)
    have HB3 := aside (new_trans HB2.out hn3)
    have HT3 := aside (HT.out.on HB3.out)
    rw [← hw3, ← hX]
    have c0 : w3.cell? ⟨X, 0, none⟩ = some (.int .i64 0) := cell_whole hh 0
    have c1 : w3.cell? ⟨X, 1, none⟩ = some (.int .i64 0) := cell_whole hh 1
    have c2 : w3.cell? ⟨X, 2, none⟩ = some (.int .i64 0) := cell_whole hh 2
    have heq := HEQ.out
    have hB0 : Aside (Below w3.heap.size w3 w3.drew) := new_drew w3
    clear hh hn3 hw3 hX HV1 HV2 HB2 HEQ
    go_region_held3 (fun W => W.cell? ⟨X, 0, none⟩ = some (.int .i64 0) ∧ W.cell? ⟨X, 1, none⟩ = some (.int .i64 0) ∧ W.cell? ⟨X, 2, none⟩ = some (.int .i64 0) ∧ Aside (Below w3.heap.size w3 W)) (exact flt_keep c0 c1 c2 (by assumption)) (first
      | (go_at_call 45
         refine (told_nil _).mono ?_
         rintro e w6 ⟨rfl, hb6⟩
         have hB6 : Aside (Below w3.heap.size w3 w6) := new_trans (Aside.out (by assumption)) hb6
         clear hb6)
      | (go_at_call 46
         refine (samerecs_any _ _ ds ds HLN.out.1 HLN.out.1 HLN.out.2 HLN.out.2 _ (HV1b.out.on (Aside.out (by assumption))) (HV2b.out.on (Aside.out (by assumption)))).mono ?_
         rintro e w7 ⟨rfl, hb7⟩
         have hB7 : Aside (Below w3.heap.size w3 w7) := new_trans (Aside.out (by assumption)) hb7
         rw [show decide (ds = ds) = true from decide_eq_true rfl]
         clear hb7))
    all_goals
      go_wp2_with fail
      go_ret
      exact ⟨rfl, new_trans HB3.out (Aside.out (by assumption))⟩
  · rw [if_neg h0] at hr
    obtain ⟨f, rfl, hf, h0', h1', h2'⟩ := hr
    have HC0 := aside h0
    have ec : (c != 0) = true := by simpa using h0
    clear h0
    go_wp2_with fail
    refine (rparse_any t HTS.out w1).mono ?_
    rintro e w2 ⟨v2, rfl, hrs2, hb2⟩
    rw [← HR.out] at hrs2 ⊢
    have HDN : Aside (ds = []) := by
      have h := parse_none (sumB refK refF) t.size zero32 t [] (by rw [← parseF, ← HR.out, ← HCC.out]; exact HC0.out)
      rw [← parseF, ← HR.out] at h
      rw [Aside, HDS.out]
      exact h
    rw [← HDS.out, HDN.out] at hrs2
    rw [← HCC.out, ← HNN.out]
    have HV1 : Aside (RecsAt w2 (.slice none 0 0) []) := (RecsF.nil w2.heap.size w2).at_
    have HV2 := aside (hrs2.at_)
    have HB2 := aside (new_trans HB1.out hb2)
    have H0a : Aside (w2.cell? ⟨f, 0, none⟩ = some (.int .i64 c)) := (hb2.cell (cell_lt h0')).trans h0'
    have H1a : Aside (w2.cell? ⟨f, 1, none⟩ = some (.int .i64 0)) := (hb2.cell (cell_lt h1')).trans h1'
    have H2a : Aside (w2.cell? ⟨f, 2, none⟩ = some (.int .i64 n)) := (hb2.cell (cell_lt h2')).trans h2'
    rw [HDN.out] at HLN
    clear hrs2 hb2 HB1 h0' h1' h2' hf
    go_upto_region 3 with fail
    obtain ⟨X, hX⟩ : ∃ x, x = w2.heap.size := ⟨_, rfl⟩
    obtain ⟨w3, hw3⟩ : ∃ z, z = w2.alloc (.cells #[.int .i64 c, .int .i64 0, .int .i64 n] 96) := ⟨_, rfl⟩
    have hh : w3.heap[X]? = some (.cells #[.int .i64 c, .int .i64 0, .int .i64 n] 96 (0, 0)) := by rw [hw3, hX]; exact heap_new _ _
    have hn3 : Below w2.heap.size w2 w3 := by rw [hw3]; exact new_alloc _ _
    have HV1b := aside (HV1.out.on hn3)
    have HV2b := aside (HV2.out.on hn3)
    have HB3 := aside (new_trans HB2.out hn3)
    have HT3 := aside (HT.out.on HB3.out)
    have H0 : Aside (w3.cell? ⟨f, 0, none⟩ = some (.int .i64 c)) := (hn3.cell (cell_lt H0a.out)).trans H0a.out
    have H1 : Aside (w3.cell? ⟨f, 1, none⟩ = some (.int .i64 0)) := (hn3.cell (cell_lt H1a.out)).trans H1a.out
    have H2 : Aside (w3.cell? ⟨f, 2, none⟩ = some (.int .i64 n)) := (hn3.cell (cell_lt H2a.out)).trans H2a.out
    clear H0a H1a H2a
    rw [← hw3, ← hX]
    have c0 : w3.cell? ⟨X, 0, none⟩ = some (.int .i64 c) := cell_whole hh 0
    have c1 : w3.cell? ⟨X, 1, none⟩ = some (.int .i64 0) := cell_whole hh 1
    have c2 : w3.cell? ⟨X, 2, none⟩ = some (.int .i64 n) := cell_whole hh 2
    have heq := HEQ.out
    have hB0 : Aside (Below w3.heap.size w3 w3.drew) := new_drew w3
    clear hh hn3 hw3 hX HV1 HV2 HB2 HEQ
    go_region_held3 (fun W => W.cell? ⟨X, 0, none⟩ = some (.int .i64 c) ∧ W.cell? ⟨X, 1, none⟩ = some (.int .i64 0) ∧ W.cell? ⟨X, 2, none⟩ = some (.int .i64 n) ∧ Aside (Below w3.heap.size w3 W)) (exact flt_keep c0 c1 c2 (by assumption)) (first
      | (go_at_call 45
         refine (told_fault f c 0 n _ (HT3.out.err.on (Aside.out (by assumption))) ?_ ?_ ?_).mono ?_
         · exact ((Aside.out (by assumption) : Below w3.heap.size w3 _).cell (cell_lt H0.out)).trans H0.out
         · exact ((Aside.out (by assumption) : Below w3.heap.size w3 _).cell (cell_lt H1.out)).trans H1.out
         · exact ((Aside.out (by assumption) : Below w3.heap.size w3 _).cell (cell_lt H2.out)).trans H2.out
         rintro e w6 ⟨rfl, hb6⟩
         have hB6 : Aside (Below w3.heap.size w3 w6) := new_trans (Aside.out (by assumption)) hb6
         clear hb6)
      | (go_at_call 46
         refine (samerecs_any _ _ ([] : List RecD) ([] : List RecD) HLN.out.1 HLN.out.1 HLN.out.2 HLN.out.2 _ (HV1b.out.on (Aside.out (by assumption))) (HV2b.out.on (Aside.out (by assumption)))).mono ?_
         rintro e w7 ⟨rfl, hb7⟩
         have hB7 : Aside (Below w3.heap.size w3 w7) := new_trans (Aside.out (by assumption)) hb7
         rw [show decide (([] : List RecD) = ([] : List RecD)) = true from decide_eq_true rfl]
         clear hb7))
    all_goals
      go_wp2_with fail
      go_ret
      exact ⟨rfl, new_trans HB3.out (Aside.out (by assumption))⟩
end Go.Proofs.YtkpmcjfolncmmaaGreatDoor
