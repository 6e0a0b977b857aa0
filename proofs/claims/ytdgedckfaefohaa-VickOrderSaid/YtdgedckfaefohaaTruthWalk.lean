/- consignlaw21.VickTruth, walked. -/
import Derived.Test.YtdgedckfaefohaaGain
import Derived.Test.YtdgedckfaefohaaAppAny
import Derived.Test.YtdgedckfaefohaaOwnWalk
namespace Go.Proofs.Ytdgedckfaefohaa
open Go.RowKit Go.Sort
open Go.Proofs.Ytdgedckfaefohaa.Srt Go.Proofs.Ytdgedckfaefohaa.Vk

theorem restTo_mem (bs : List Bd) (c : Int) : ∀ k, k ≤ bs.length → ∀ x ∈ restTo bs c k, x ∈ bs
  | 0, _, x, h => by simp [restTo] at h
  | k + 1, hk, x, h => by
    unfold restTo at h
    split at h
    · exact restTo_mem bs c k (by omega) x h
    · rcases List.mem_append.1 h with h | h
      · exact restTo_mem bs c k (by omega) x h
      · simp only [List.mem_singleton] at h
        subst h
        rw [getElem!_pos _ k (by omega)]
        exact List.getElem_mem _

/-- A row of literals, wherever its block lies. -/
theorem OwnBids.at_ {base : Nat} {w : World} (bs : List Bd) {cs : Array Value} {g n : Nat} (hb : base ≤ g) (hh : w.heap[g]? = some (.cells cs 32 (0, 0))) (hcs : cs.toList = cellsOf bs) (hn : n = bs.length) (h1 : bs.length ≤ 1000) : OwnBids base w (.slice (some ⟨g, 0, none⟩) n n) bs := by
  subst hn
  have hl := length_cellsOf bs
  refine ⟨by rw [hl], .inr ⟨g, bs.length, cs, rfl, hb, hh, Nat.le_refl _, by unfold maxLen; omega, by rw [← Array.length_toList, hcs, hl], ?_⟩⟩
  rw [hcs, List.take_of_length_le (by omega)]

/-- A row of the call's own that has a block, cut. -/
structure SliceOwn (w : World) (g m cap : Nat) (R : List Bd) : Prop where
  take : ∀ q, q ≤ m → BidsAt w (.slice (some ⟨g, 0, none⟩) q cap) (R.take q)
  drop : ∀ q, q ≤ m → BidsAt w (.slice (some ⟨g, q * 2, none⟩) (m - q) (cap - q)) (R.drop q)

theorem slice_own {base : Nat} {w : World} {g m cap : Nat} {R : List Bd} (h : OwnBids base w (.slice (some ⟨g, 0, none⟩) m cap) R) (hm : m = R.length) : SliceOwn w g m cap R := by
  subst hm
  obtain ⟨h1, h2⟩ := h
  rcases h2 with ⟨e, _⟩ | ⟨g', cap', cur, e, hg, hh, hnc, hcm, hcs, htk⟩
  · cases e
  · injection e with e1 _ e3
    injection e1 with e1
    injection e1 with e1
    subst e1 e3
    have hc : ∀ j, j < R.length → w.cell? ⟨g, j * 2, none⟩ = some (.int .i64 R[j]!.1) ∧ w.cell? ⟨g, j * 2 + 1, none⟩ = some (.int .u64 R[j]!.2) := fun j hj => by
      obtain ⟨c1, c2⟩ := get_cellsOf R j hj
      rw [cell_of_heap hh, cell_of_heap hh]
      have hl := length_cellsOf R
      rw [← htk, List.getElem?_take_of_lt (by omega)] at c1 c2
      exact ⟨by simpa using c1, by simpa using c2⟩
    have hb : g < w.heap.size := (Array.getElem?_eq_some_iff.1 hh).1
    refine ⟨fun q hq => .inr ⟨g, 0, cap, by rw [List.length_take, Nat.min_eq_left hq], fun _ => hb, fun j hj => ?_⟩, fun q hq => .inr ⟨g, q * 2, cap - q, by rw [List.length_drop], fun _ => hb, fun j hj => ?_⟩⟩
    · rw [List.length_take] at hj
      rw [getElem!_pos _ j (by rw [List.length_take]; exact hj), List.getElem_take, ← getElem!_pos R j (by omega), Nat.zero_add]
      exact hc j (by omega)
    · rw [List.length_drop] at hj
      rw [getElem!_pos _ j (by rw [List.length_drop]; exact hj), List.getElem_drop, ← getElem!_pos R (q + j) (by omega), ← Nat.add_mul]
      exact hc (q + j) (by omega)

theorem heapDrew (w : World) : w.drew.heap = w.heap := rfl
theorem heapAlloc (w : World) (o : Obj) : (w.alloc o).heap = w.heap.push o := rfl

theorem OwnBids.drew {base : Nat} {w : World} {v : Value} {bs : List Bd} (h : OwnBids base w v bs) : OwnBids base w.drew v bs := h

set_option maxHeartbeats 8000000 in
set_option maxRecDepth 100000 in
theorem truth_law (bs : List Bd) (v : Value) (reserve c x y z : Int) (w : World) (hv : BidsAt w v bs) (hn : bs.length ≤ 9223372036854775807) (hbb : ∀ b ∈ bs, 0 ≤ b.2 ∧ b.2 ≤ 18446744073709551615) (hr : 0 ≤ reserve ∧ reserve ≤ 18446744073709551615) (hx : 0 ≤ x ∧ x ≤ 18446744073709551615) (hy : 0 ≤ y ∧ y ≤ 18446744073709551615) (hz : 0 ≤ z ∧ z ≤ 255) :
    Calls Try.prog 5 #[v, .int .u64 reserve, .int .i64 c, .agg #[.int .u64 x, .int .u64 y], .int .u8 z] w fun e w' => e = .returned (.bool true) ∧ Below w.heap.size w w' := by
  obtain ⟨a, cap, rfl, hform⟩ := hv.form
  obtain ⟨n, hnn⟩ : ∃ n, n = bs.length := ⟨_, rfl⟩
  have HN := aside hnn
  rw [← hnn] at hn hform ⊢
  have HF := aside hform
  have HBB := aside hbb
  have HRV := aside hr
  have HXX := aside hx
  have HYY := aside hy
  obtain ⟨hz0, hz1⟩ := hz
  clear hbb hr hx hy
  clear hv hnn hform
  go_enter Try.func5, Try.ntmps5
  go_wp2_with fail
  refine (works_any _).mono ?_
  rintro e w0 ⟨rfl, hb0⟩
  have hb1 : Below w.heap.size w w0 := ((Below.refl _ w).alloc (Nat.le_refl _) _).trans (hb0.mono (by simp))
  have HF1 : Aside (0 < n → ∃ lb lo, a = some ⟨lb, lo, none⟩ ∧ lb < w0.heap.size ∧ BidCells w0 lb lo bs) := fun h => by
    obtain ⟨lb, lo, h1, h2, h3⟩ := HF.out h
    exact ⟨lb, lo, h1, Nat.lt_of_lt_of_le h2 hb1.size, h3.below h2 hb1⟩
  have HW1 := aside hb1
  have c0 : w0.cell? ⟨w.heap.size, 0, none⟩ = some (.int .u64 x) := (hb0.cell (p := ⟨w.heap.size, 0, none⟩) (by simp)).trans (by simp)
  have c1 : w0.cell? ⟨w.heap.size, 1, none⟩ = some (.int .u64 y) := (hb0.cell (p := ⟨w.heap.size, 1, none⟩) (by simp)).trans (by simp)
  clear HF hb0 hb1
  go_wp2_with fail
  go_quiet (fail)
  obtain ⟨wd, hwd⟩ : ∃ wd, wd = w0.drewN nq := ⟨_, rfl⟩
  have HW0 : Aside (Below w.heap.size w wd) := by rw [Aside, hwd]; exact below_drewN HW1.out nq
  have HF0 : Aside (0 < n → ∃ lb lo, a = some ⟨lb, lo, none⟩ ∧ lb < wd.heap.size ∧ BidCells wd lb lo bs) := fun h => by
    obtain ⟨lb, lo, h1, h2, h3⟩ := HF1.out h
    have hb := below_drewN (Below.refl w0.heap.size w0) nq
    rw [← hwd] at hb
    exact ⟨lb, lo, h1, Nat.lt_of_lt_of_le h2 hb.size, h3.below h2 hb⟩
  rw [← hwd]
  clear hwd c0 c1 HF1 HW1
  clear w0
  obtain ⟨w0, rfl⟩ : ∃ w0, w0 = wd := ⟨_, rfl⟩
  go_wp2
  go_loopg [13, 14] n (fun g v13 v14 wr => ∃ k : Nat, v14 = .int .i64 k ∧ k ≤ n ∧ k ≤ 40 ∧ n - k ≤ g ∧ Aside (OwnBids w0.heap.size wr v13 (restTo bs c k)) ∧ Aside (Below w0.heap.size w0 wr))
  case atStart => exact ⟨0, rfl, by omega, by omega, by omega, World.ownsRow_nil _ _ _ _, Below.refl _ _⟩
  case round =>
    obtain ⟨k, rfl, hk, hk4, hg, HO, HW⟩ := hrel
    have hsz := HW.out.size
    by_cases hlt : k < n ∧ k < 40
    · as_aux_lemma =>
      obtain ⟨hlt, hlt4⟩ := hlt
      have hltz : (k : Int) < (n : Int) := by omega
      have hltz4 : (k : Int) < 40 := by omega
      obtain ⟨lb, lo, rfl, hlb, hbc⟩ := HF0.out (by omega)
      have hbc' := hbc.below hlb HW.out
      have q1 := (hbc' k (by rw [← HN.out]; exact hlt)).1
      have q2 := (hbc' k (by rw [← HN.out]; exact hlt)).2
      obtain ⟨bk, hbk⟩ : ∃ q, q = bs[k]!.2 := ⟨_, rfl⟩
      obtain ⟨ck, hck⟩ : ∃ q, q = bs[k]!.1 := ⟨_, rfl⟩
      rw [← hck] at q1
      rw [← hbk] at q2
      clear hbc hbc' HF0
      by_cases hcc : ck = c
      · have hne : (ck != c) = false := by rw [hcc]; simp
        have HRT : Aside (restTo bs c (k + 1) = restTo bs c k) := by
          show _ = _
          conv => lhs; unfold restTo
          rw [if_pos (by rw [← hck]; exact hcc)]
        clear hcc hbk hck
        go_wp2
        go_roundg (n - (k + 1))
        case measure => omega
        case rel => exact ⟨k + 1, by go_num, by omega, by omega, by omega, by rw [HRT.out]; exact HO, HW⟩
      · have hne : (ck != c) = true := by rw [bne_iff_ne]; exact hcc
        have HRT : Aside (restTo bs c (k + 1) = restTo bs c k ++ [(ck, bk)]) := by
          show _ = _
          conv => lhs; unfold restTo
          rw [if_neg (by rw [← hck]; exact hcc), hck, hbk]
        have hlr := length_restTo bs c k
        have hown := HO.out
        clear hcc hbk hck HO
        go_wp2_with (first
          | (at_builtin; refine wpList_append_bids rfl _ _ rfl w0.heap.size w0.heap.size _ (restTo bs c k) rfl (hown.alloc _) _ [(ck, bk)] rfl (OwnBids.lit _ _ [(ck, bk)] _ _ _ hsz (by simp) rfl rfl rfl) (by simp <;> omega) (by simp <;> omega) ?_)
          | fail)
        intro v' w1 hown' hgrow
        have HW1 : Aside (Below w0.heap.size w0 w1) := (HW.out.alloc hsz _).grown hgrow (by simp; omega) (fun k hk => (hown.block k hk).1)
        rw [← HRT.out] at hown'
        have HO1 := aside hown'
        clear hown hown' hgrow HW q1 q2 HRT
        go_wp2
        go_roundg (n - (k + 1))
        case measure => omega
        case rel => exact ⟨k + 1, by go_num, by omega, by omega, by omega, HO1, HW1⟩
    · as_aux_lemma =>
      have hlr := length_restTo bs c k
      have hon := restTo_only bs c k
      obtain ⟨R, hR⟩ : ∃ R, R = restTo bs c k := ⟨_, rfl⟩
      have HOR : Aside (OwnBids w0.heap.size wr u13 R) := by rw [hR]; exact HO.out
      have HON := aside hon
      have HRB : Aside (∀ b ∈ restTo bs c k, 0 ≤ b.2 ∧ b.2 ≤ 18446744073709551615) := fun b hb => HBB.out b (restTo_mem bs c k (by rw [← HN.out]; exact hk) b hb)
      rw [← hR] at hlr HON HRB
      have hR40 : R.length ≤ 40 := by omega
      clear hlr hR hon HO HF0
      go_upto_region 6 with fail
      go_cut [35] (fun v wx => v = .bool false ∧ wx = wr)
      case first =>
        by_cases hkn : k < n
        · have hltz : (k : Int) < (n : Int) := by omega
          have hltz4 : ¬ (k : Int) < 40 := by omega
          go_wp2
          go_meet
          case rel => exact ⟨rfl, rfl⟩
        · have hltz : ¬ (k : Int) < (n : Int) := by omega
          go_wp2
          go_meet
          case rel => exact ⟨rfl, rfl⟩
      case rest =>
      obtain ⟨rfl, rfl⟩ := hcut
      obtain ⟨q, hq⟩ : ∃ q : Nat, (q : Int) = z % ((R.length : Int) + 1) := ⟨(z % ((R.length : Int) + 1)).toNat, Int.toNat_of_nonneg (Int.emod_nonneg _ (by omega))⟩
      have hqR : q ≤ R.length := by have := Int.emod_lt_of_pos z (show 0 < (R.length : Int) + 1 by omega); omega
      obtain ⟨a', cap', rfl, hcap', hform⟩ : ∃ a' cap', u13 = .slice a' R.length cap' ∧ R.length ≤ cap' ∧ ((a' = none ∧ R = [] ∧ cap' = 0) ∨ ∃ g, a' = some ⟨g, 0, none⟩) := by
        rcases HOR.out.2 with ⟨rfl, h0⟩ | ⟨g, cap, cur, rfl, hg, hh, hnc, _⟩
        · exact ⟨none, 0, by rw [h0], by omega, .inl ⟨rfl, List.length_eq_zero_iff.1 h0, rfl⟩⟩
        · exact ⟨_, cap, rfl, hnc, .inr ⟨g, rfl⟩⟩
      obtain ⟨m, hm⟩ : ∃ m, m = R.length := ⟨_, rfl⟩
      have HM := aside hm
      have HOR' : Aside (OwnBids w0.heap.size wc (.slice a' m cap') R) := by rw [HM.out]; exact HOR.out
      rw [← hm] at hq hqR hcap' hR40 ⊢
      have HFM := aside hform
      clear hm hform HOR
      have hnz : ((m : Int) + 1 == 0) = false := by rw [beq_eq_false_iff_ne]; omega
      go_upto_region 11 with fail
      rw [← hq]
      clear hq hnz hz0 hz1
      go_cut [16] (fun v wx => Aside (OwnBids wc.heap.size wx v (R.take q ++ [(c, x)] ++ R.drop q)) ∧ Aside (Below wc.heap.size wc wx))
      case first =>
        rcases HFM.out with ⟨rfl, rfl, rfl⟩ | ⟨g, rfl⟩
        · as_aux_lemma =>
          obtain rfl : m = 0 := by rw [HM.out]; rfl
          obtain rfl : q = 0 := by omega
          clear HFM HM
          go_region_held3 (fun _ => True) (exact trivial) (first
            | (refine step_append_bids rfl _ _ rfl wc.heap.size (.slice (some ⟨_, 0, none⟩) 0 0) [] rfl ?_ (.slice none 0 0) [] rfl ?_ ?_ ?_ ?_
               · exact OwnBids.at_ [] (by first | omega | (simp; done) | (simp; omega)) (by (simp only [heapDrew, heapAlloc, Array.getElem?_push]; simp; done)) rfl rfl (by simp)
               · exact .inl ⟨.inl rfl, rfl⟩
               · exact Nat.le_of_ble_eq_true rfl
               · first | omega | (simp; done) | (simp; omega)
               intro v1 w1 h1 g1
               have B1 : Below wc.heap.size wc w1 := Below.grown (by repeat (first | exact B2 | exact B1 | exact Below.refl _ _ | refine Below.drew ?_ | refine Below.alloc ?_ (by first | omega | (simp; done) | (simp; omega)) _)) g1 (by first | omega | (simp; done) | (simp; omega)) (fun k hk => by simp [Value.ownBlock] at hk; omega)
               have z1 := B1.size)
            | (refine step_append_bids rfl _ _ rfl wc.heap.size v1 [] rfl ?_ (.slice (some ⟨_, 0, none⟩) 1 1) [(c, x)] rfl ?_ ?_ ?_ ?_
               · first | exact h1 | exact h1.drew | exact h1.alloc _ | exact (h1.alloc _).drew
               · refine OwnBids.bids (OwnBids.at_ (base := 0) [(c, x)] (Nat.zero_le _) ?_ rfl rfl (by simp)); first | (simp only [heapAlloc, Array.getElem?_push]; simp [cellsOf]; done) | exact (g1.block _ (by first | omega | (simp; done) | (simp; omega)) (by simp [Value.ownBlock])).trans (by (simp only [heapDrew, heapAlloc, Array.getElem?_push]; simp [cellsOf]; done))
               · exact Nat.le_of_ble_eq_true rfl
               · first | omega | (simp; done) | (simp; omega)
               intro v2 w2 h2 g2
               have B2 : Below wc.heap.size wc w2 := Below.grown (by repeat (first | exact B2 | exact B1 | exact Below.refl _ _ | refine Below.drew ?_ | refine Below.alloc ?_ (by first | omega | (simp; done) | (simp; omega)) _)) g2 (by first | omega | (simp; done) | (simp; omega)) (fun k hk => (h1.block k hk).1)
               have z2 := B2.size)
            | (refine step_append_bids rfl _ _ rfl wc.heap.size v2 ([] ++ [(c, x)]) rfl ?_ (.slice none 0 0) [] rfl ?_ ?_ ?_ ?_
               · exact h2
               · exact .inl ⟨.inl rfl, rfl⟩
               · exact Nat.le_of_ble_eq_true rfl
               · first | omega | (simp; done) | (simp; omega)
               intro v3 w3 h3 g3
               have B3 : Below wc.heap.size wc w3 := Below.grown (by repeat (first | exact B2 | exact B1 | exact Below.refl _ _ | refine Below.drew ?_ | refine Below.alloc ?_ (by first | omega | (simp; done) | (simp; omega)) _)) g3 (by first | omega | (simp; done) | (simp; omega)) (fun k hk => (h2.block k hk).1)
               have z3 := B3.size))
          all_goals
            go_wp2
            go_meet
            case rel => exact ⟨h3, B3⟩
        · have HTK := aside ((slice_own HOR'.out HM.out).take q (by omega))
          have hlt : (R.take q).length ≤ 40 := by rw [List.length_take, ← HM.out]; omega
          have hld : (R.drop q).length ≤ 40 := by rw [List.length_drop, ← HM.out]; omega
          by_cases hqc : q = cap'
          · as_aux_lemma =>
            have HDR : Aside (BidsAt wc (.slice (some ⟨g, 0, none⟩) 0 0) (R.drop q)) := .inl ⟨.inr ⟨_, _, rfl⟩, List.drop_eq_nil_of_le (by rw [← HM.out]; omega)⟩
            obtain rfl : m = q := by omega
            subst hqc
            clear HFM HM
            go_region_held3 (fun _ => True) (exact trivial) (first
              | (refine step_append_bids rfl _ _ rfl wc.heap.size (.slice (some ⟨_, 0, none⟩) 0 0) [] rfl ?_ _ (R.take m) rfl ?_ ?_ ?_ ?_
                 · exact OwnBids.at_ [] (by first | omega | (simp; done) | (simp; omega)) (by (simp only [heapDrew, heapAlloc, Array.getElem?_push]; simp; done)) rfl rfl (by simp)
                 · exact HTK.out.below (by repeat (first | exact B2 | exact B1 | exact Below.refl _ _ | refine Below.drew ?_ | refine Below.alloc ?_ (by first | omega | (simp; done) | (simp; omega)) _))
                 · simp only [List.length_nil]; omega
                 · first | omega | (simp; done) | (simp; omega)
                 intro v1 w1 h1 g1
                 have B1 : Below wc.heap.size wc w1 := Below.grown (by repeat (first | exact B2 | exact B1 | exact Below.refl _ _ | refine Below.drew ?_ | refine Below.alloc ?_ (by first | omega | (simp; done) | (simp; omega)) _)) g1 (by first | omega | (simp; done) | (simp; omega)) (fun k hk => by simp [Value.ownBlock] at hk; omega)
                 have z1 := B1.size)
              | (refine step_append_bids rfl _ _ rfl wc.heap.size v1 (R.take m) rfl ?_ (.slice (some ⟨_, 0, none⟩) 1 1) [(c, x)] rfl ?_ ?_ ?_ ?_
                 · first | exact h1 | exact h1.drew | exact h1.alloc _ | exact (h1.alloc _).drew
                 · refine OwnBids.bids (OwnBids.at_ (base := 0) [(c, x)] (Nat.zero_le _) ?_ rfl rfl (by simp)); first | (simp only [heapAlloc, Array.getElem?_push]; simp [cellsOf]; done) | exact (g1.block _ (by first | omega | (simp; done) | (simp; omega)) (by simp [Value.ownBlock])).trans (by (simp only [heapDrew, heapAlloc, Array.getElem?_push]; simp [cellsOf]; done))
                 · simp only [List.length_cons, List.length_nil]; omega
                 · first | omega | (simp; done) | (simp; omega)
                 intro v2 w2 h2 g2
                 have B2 : Below wc.heap.size wc w2 := Below.grown (by repeat (first | exact B2 | exact B1 | exact Below.refl _ _ | refine Below.drew ?_ | refine Below.alloc ?_ (by first | omega | (simp; done) | (simp; omega)) _)) g2 (by first | omega | (simp; done) | (simp; omega)) (fun k hk => (h1.block k hk).1)
                 have z2 := B2.size)
              | (refine step_append_bids rfl _ _ rfl wc.heap.size v2 ((R.take m) ++ [(c, x)]) rfl ?_ _ (R.drop m) rfl ?_ ?_ ?_ ?_
                 · exact h2
                 · exact HDR.out.below (by repeat (first | exact B2 | exact B1 | exact Below.refl _ _ | refine Below.drew ?_ | refine Below.alloc ?_ (by first | omega | (simp; done) | (simp; omega)) _))
                 · simp only [List.length_append, List.length_cons, List.length_nil]; omega
                 · first | omega | (simp; done) | (simp; omega)
                 intro v3 w3 h3 g3
                 have B3 : Below wc.heap.size wc w3 := Below.grown (by repeat (first | exact B2 | exact B1 | exact Below.refl _ _ | refine Below.drew ?_ | refine Below.alloc ?_ (by first | omega | (simp; done) | (simp; omega)) _)) g3 (by first | omega | (simp; done) | (simp; omega)) (fun k hk => (h2.block k hk).1)
                 have z3 := B3.size))
            all_goals
              go_wp2
              go_meet
              case rel => exact ⟨h3, B3⟩
          · as_aux_lemma =>
            have HDR := aside ((slice_own HOR'.out HM.out).drop q (by omega))
            have hqz : (q : Int) ≤ (m : Int) := by omega
            have hqz1 : ¬ cap' = q := fun e => hqc e.symm
            have hqz2 : (q : Int) ≤ (cap' : Int) := by omega
            clear HFM HM
            go_region_held3 (fun _ => True) (exact trivial) (first
              | (refine step_append_bids rfl _ _ rfl wc.heap.size (.slice (some ⟨_, 0, none⟩) 0 0) [] rfl ?_ _ (R.take q) rfl ?_ ?_ ?_ ?_
                 · exact OwnBids.at_ [] (by first | omega | (simp; done) | (simp; omega)) (by (simp only [heapDrew, heapAlloc, Array.getElem?_push]; simp; done)) rfl rfl (by simp)
                 · exact HTK.out.below (by repeat (first | exact B2 | exact B1 | exact Below.refl _ _ | refine Below.drew ?_ | refine Below.alloc ?_ (by first | omega | (simp; done) | (simp; omega)) _))
                 · simp only [List.length_nil]; omega
                 · first | omega | (simp; done) | (simp; omega)
                 intro v1 w1 h1 g1
                 have B1 : Below wc.heap.size wc w1 := Below.grown (by repeat (first | exact B2 | exact B1 | exact Below.refl _ _ | refine Below.drew ?_ | refine Below.alloc ?_ (by first | omega | (simp; done) | (simp; omega)) _)) g1 (by first | omega | (simp; done) | (simp; omega)) (fun k hk => by simp [Value.ownBlock] at hk; omega)
                 have z1 := B1.size)
              | (refine step_append_bids rfl _ _ rfl wc.heap.size v1 (R.take q) rfl ?_ (.slice (some ⟨_, 0, none⟩) 1 1) [(c, x)] rfl ?_ ?_ ?_ ?_
                 · first | exact h1 | exact h1.drew | exact h1.alloc _ | exact (h1.alloc _).drew
                 · refine OwnBids.bids (OwnBids.at_ (base := 0) [(c, x)] (Nat.zero_le _) ?_ rfl rfl (by simp)); first | (simp only [heapAlloc, Array.getElem?_push]; simp [cellsOf]; done) | exact (g1.block _ (by first | omega | (simp; done) | (simp; omega)) (by simp [Value.ownBlock])).trans (by (simp only [heapDrew, heapAlloc, Array.getElem?_push]; simp [cellsOf]; done))
                 · simp only [List.length_cons, List.length_nil]; omega
                 · first | omega | (simp; done) | (simp; omega)
                 intro v2 w2 h2 g2
                 have B2 : Below wc.heap.size wc w2 := Below.grown (by repeat (first | exact B2 | exact B1 | exact Below.refl _ _ | refine Below.drew ?_ | refine Below.alloc ?_ (by first | omega | (simp; done) | (simp; omega)) _)) g2 (by first | omega | (simp; done) | (simp; omega)) (fun k hk => (h1.block k hk).1)
                 have z2 := B2.size)
              | (refine step_append_bids rfl _ _ rfl wc.heap.size v2 ((R.take q) ++ [(c, x)]) rfl ?_ _ (R.drop q) rfl ?_ ?_ ?_ ?_
                 · exact h2
                 · exact HDR.out.below (by repeat (first | exact B2 | exact B1 | exact Below.refl _ _ | refine Below.drew ?_ | refine Below.alloc ?_ (by first | omega | (simp; done) | (simp; omega)) _))
                 · simp only [List.length_append, List.length_cons, List.length_nil]; omega
                 · first | omega | (simp; done) | (simp; omega)
                 intro v3 w3 h3 g3
                 have B3 : Below wc.heap.size wc w3 := Below.grown (by repeat (first | exact B2 | exact B1 | exact Below.refl _ _ | refine Below.drew ?_ | refine Below.alloc ?_ (by first | omega | (simp; done) | (simp; omega)) _)) g3 (by first | omega | (simp; done) | (simp; omega)) (fun k hk => (h2.block k hk).1)
                 have z3 := B3.size))
            all_goals
              go_wp2
              go_meet
              case rel => exact ⟨h3, B3⟩
      case rest =>
      as_aux_lemma =>
      obtain ⟨HO16, HB16⟩ := hcut
      have HOR4 : Aside (OwnBids w0.heap.size wc (.slice a' m cap') R) := HOR'.out.below HB16.out
      have V4 : Aside (Below w0.heap.size w0 wc) := HW.out.trans (HB16.out.mono hsz)
      have hsz4 := V4.out.size
      clear HOR' HW HB16 hsz
      go_upto_region 12 with fail
      go_cut [17] (fun v wx => Aside (OwnBids wc.heap.size wx v (R.take q ++ [(c, y)] ++ R.drop q)) ∧ Aside (Below wc.heap.size wc wx))
      case first =>
        rcases HFM.out with ⟨rfl, rfl, rfl⟩ | ⟨g, rfl⟩
        · as_aux_lemma =>
          obtain rfl : m = 0 := by rw [HM.out]; rfl
          obtain rfl : q = 0 := by omega
          clear HFM HM
          go_region_held3 (fun _ => True) (exact trivial) (first
            | (refine step_append_bids rfl _ _ rfl wc.heap.size (.slice (some ⟨_, 0, none⟩) 0 0) [] rfl ?_ (.slice none 0 0) [] rfl ?_ ?_ ?_ ?_
               · exact OwnBids.at_ [] (by first | omega | (simp; done) | (simp; omega)) (by (simp only [heapDrew, heapAlloc, Array.getElem?_push]; simp; done)) rfl rfl (by simp)
               · exact .inl ⟨.inl rfl, rfl⟩
               · exact Nat.le_of_ble_eq_true rfl
               · first | omega | (simp; done) | (simp; omega)
               intro v1 w1 h1 g1
               have B1 : Below wc.heap.size wc w1 := Below.grown (by repeat (first | exact B2 | exact B1 | exact Below.refl _ _ | refine Below.drew ?_ | refine Below.alloc ?_ (by first | omega | (simp; done) | (simp; omega)) _)) g1 (by first | omega | (simp; done) | (simp; omega)) (fun k hk => by simp [Value.ownBlock] at hk; omega)
               have z1 := B1.size)
            | (refine step_append_bids rfl _ _ rfl wc.heap.size v1 [] rfl ?_ (.slice (some ⟨_, 0, none⟩) 1 1) [(c, y)] rfl ?_ ?_ ?_ ?_
               · first | exact h1 | exact h1.drew | exact h1.alloc _ | exact (h1.alloc _).drew
               · refine OwnBids.bids (OwnBids.at_ (base := 0) [(c, y)] (Nat.zero_le _) ?_ rfl rfl (by simp)); first | (simp only [heapAlloc, Array.getElem?_push]; simp [cellsOf]; done) | exact (g1.block _ (by first | omega | (simp; done) | (simp; omega)) (by simp [Value.ownBlock])).trans (by (simp only [heapDrew, heapAlloc, Array.getElem?_push]; simp [cellsOf]; done))
               · exact Nat.le_of_ble_eq_true rfl
               · first | omega | (simp; done) | (simp; omega)
               intro v2 w2 h2 g2
               have B2 : Below wc.heap.size wc w2 := Below.grown (by repeat (first | exact B2 | exact B1 | exact Below.refl _ _ | refine Below.drew ?_ | refine Below.alloc ?_ (by first | omega | (simp; done) | (simp; omega)) _)) g2 (by first | omega | (simp; done) | (simp; omega)) (fun k hk => (h1.block k hk).1)
               have z2 := B2.size)
            | (refine step_append_bids rfl _ _ rfl wc.heap.size v2 ([] ++ [(c, y)]) rfl ?_ (.slice none 0 0) [] rfl ?_ ?_ ?_ ?_
               · exact h2
               · exact .inl ⟨.inl rfl, rfl⟩
               · exact Nat.le_of_ble_eq_true rfl
               · first | omega | (simp; done) | (simp; omega)
               intro v3 w3 h3 g3
               have B3 : Below wc.heap.size wc w3 := Below.grown (by repeat (first | exact B2 | exact B1 | exact Below.refl _ _ | refine Below.drew ?_ | refine Below.alloc ?_ (by first | omega | (simp; done) | (simp; omega)) _)) g3 (by first | omega | (simp; done) | (simp; omega)) (fun k hk => (h2.block k hk).1)
               have z3 := B3.size))
          all_goals
            go_wp2
            go_meet
            case rel => exact ⟨h3, B3⟩
        · have HTK := aside ((slice_own HOR4.out HM.out).take q (by omega))
          have hlt : (R.take q).length ≤ 40 := by rw [List.length_take, ← HM.out]; omega
          have hld : (R.drop q).length ≤ 40 := by rw [List.length_drop, ← HM.out]; omega
          by_cases hqc : q = cap'
          · as_aux_lemma =>
            have HDR : Aside (BidsAt wc (.slice (some ⟨g, 0, none⟩) 0 0) (R.drop q)) := .inl ⟨.inr ⟨_, _, rfl⟩, List.drop_eq_nil_of_le (by rw [← HM.out]; omega)⟩
            obtain rfl : m = q := by omega
            subst hqc
            clear HFM HM
            go_region_held3 (fun _ => True) (exact trivial) (first
              | (refine step_append_bids rfl _ _ rfl wc.heap.size (.slice (some ⟨_, 0, none⟩) 0 0) [] rfl ?_ _ (R.take m) rfl ?_ ?_ ?_ ?_
                 · exact OwnBids.at_ [] (by first | omega | (simp; done) | (simp; omega)) (by (simp only [heapDrew, heapAlloc, Array.getElem?_push]; simp; done)) rfl rfl (by simp)
                 · exact HTK.out.below (by repeat (first | exact B2 | exact B1 | exact Below.refl _ _ | refine Below.drew ?_ | refine Below.alloc ?_ (by first | omega | (simp; done) | (simp; omega)) _))
                 · simp only [List.length_nil]; omega
                 · first | omega | (simp; done) | (simp; omega)
                 intro v1 w1 h1 g1
                 have B1 : Below wc.heap.size wc w1 := Below.grown (by repeat (first | exact B2 | exact B1 | exact Below.refl _ _ | refine Below.drew ?_ | refine Below.alloc ?_ (by first | omega | (simp; done) | (simp; omega)) _)) g1 (by first | omega | (simp; done) | (simp; omega)) (fun k hk => by simp [Value.ownBlock] at hk; omega)
                 have z1 := B1.size)
              | (refine step_append_bids rfl _ _ rfl wc.heap.size v1 (R.take m) rfl ?_ (.slice (some ⟨_, 0, none⟩) 1 1) [(c, y)] rfl ?_ ?_ ?_ ?_
                 · first | exact h1 | exact h1.drew | exact h1.alloc _ | exact (h1.alloc _).drew
                 · refine OwnBids.bids (OwnBids.at_ (base := 0) [(c, y)] (Nat.zero_le _) ?_ rfl rfl (by simp)); first | (simp only [heapAlloc, Array.getElem?_push]; simp [cellsOf]; done) | exact (g1.block _ (by first | omega | (simp; done) | (simp; omega)) (by simp [Value.ownBlock])).trans (by (simp only [heapDrew, heapAlloc, Array.getElem?_push]; simp [cellsOf]; done))
                 · simp only [List.length_cons, List.length_nil]; omega
                 · first | omega | (simp; done) | (simp; omega)
                 intro v2 w2 h2 g2
                 have B2 : Below wc.heap.size wc w2 := Below.grown (by repeat (first | exact B2 | exact B1 | exact Below.refl _ _ | refine Below.drew ?_ | refine Below.alloc ?_ (by first | omega | (simp; done) | (simp; omega)) _)) g2 (by first | omega | (simp; done) | (simp; omega)) (fun k hk => (h1.block k hk).1)
                 have z2 := B2.size)
              | (refine step_append_bids rfl _ _ rfl wc.heap.size v2 ((R.take m) ++ [(c, y)]) rfl ?_ _ (R.drop m) rfl ?_ ?_ ?_ ?_
                 · exact h2
                 · exact HDR.out.below (by repeat (first | exact B2 | exact B1 | exact Below.refl _ _ | refine Below.drew ?_ | refine Below.alloc ?_ (by first | omega | (simp; done) | (simp; omega)) _))
                 · simp only [List.length_append, List.length_cons, List.length_nil]; omega
                 · first | omega | (simp; done) | (simp; omega)
                 intro v3 w3 h3 g3
                 have B3 : Below wc.heap.size wc w3 := Below.grown (by repeat (first | exact B2 | exact B1 | exact Below.refl _ _ | refine Below.drew ?_ | refine Below.alloc ?_ (by first | omega | (simp; done) | (simp; omega)) _)) g3 (by first | omega | (simp; done) | (simp; omega)) (fun k hk => (h2.block k hk).1)
                 have z3 := B3.size))
            all_goals
              go_wp2
              go_meet
              case rel => exact ⟨h3, B3⟩
          · as_aux_lemma =>
            have HDR := aside ((slice_own HOR4.out HM.out).drop q (by omega))
            have hqz : (q : Int) ≤ (m : Int) := by omega
            have hqz1 : ¬ cap' = q := fun e => hqc e.symm
            have hqz2 : (q : Int) ≤ (cap' : Int) := by omega
            clear HFM HM
            go_region_held3 (fun _ => True) (exact trivial) (first
              | (refine step_append_bids rfl _ _ rfl wc.heap.size (.slice (some ⟨_, 0, none⟩) 0 0) [] rfl ?_ _ (R.take q) rfl ?_ ?_ ?_ ?_
                 · exact OwnBids.at_ [] (by first | omega | (simp; done) | (simp; omega)) (by (simp only [heapDrew, heapAlloc, Array.getElem?_push]; simp; done)) rfl rfl (by simp)
                 · exact HTK.out.below (by repeat (first | exact B2 | exact B1 | exact Below.refl _ _ | refine Below.drew ?_ | refine Below.alloc ?_ (by first | omega | (simp; done) | (simp; omega)) _))
                 · simp only [List.length_nil]; omega
                 · first | omega | (simp; done) | (simp; omega)
                 intro v1 w1 h1 g1
                 have B1 : Below wc.heap.size wc w1 := Below.grown (by repeat (first | exact B2 | exact B1 | exact Below.refl _ _ | refine Below.drew ?_ | refine Below.alloc ?_ (by first | omega | (simp; done) | (simp; omega)) _)) g1 (by first | omega | (simp; done) | (simp; omega)) (fun k hk => by simp [Value.ownBlock] at hk; omega)
                 have z1 := B1.size)
              | (refine step_append_bids rfl _ _ rfl wc.heap.size v1 (R.take q) rfl ?_ (.slice (some ⟨_, 0, none⟩) 1 1) [(c, y)] rfl ?_ ?_ ?_ ?_
                 · first | exact h1 | exact h1.drew | exact h1.alloc _ | exact (h1.alloc _).drew
                 · refine OwnBids.bids (OwnBids.at_ (base := 0) [(c, y)] (Nat.zero_le _) ?_ rfl rfl (by simp)); first | (simp only [heapAlloc, Array.getElem?_push]; simp [cellsOf]; done) | exact (g1.block _ (by first | omega | (simp; done) | (simp; omega)) (by simp [Value.ownBlock])).trans (by (simp only [heapDrew, heapAlloc, Array.getElem?_push]; simp [cellsOf]; done))
                 · simp only [List.length_cons, List.length_nil]; omega
                 · first | omega | (simp; done) | (simp; omega)
                 intro v2 w2 h2 g2
                 have B2 : Below wc.heap.size wc w2 := Below.grown (by repeat (first | exact B2 | exact B1 | exact Below.refl _ _ | refine Below.drew ?_ | refine Below.alloc ?_ (by first | omega | (simp; done) | (simp; omega)) _)) g2 (by first | omega | (simp; done) | (simp; omega)) (fun k hk => (h1.block k hk).1)
                 have z2 := B2.size)
              | (refine step_append_bids rfl _ _ rfl wc.heap.size v2 ((R.take q) ++ [(c, y)]) rfl ?_ _ (R.drop q) rfl ?_ ?_ ?_ ?_
                 · exact h2
                 · exact HDR.out.below (by repeat (first | exact B2 | exact B1 | exact Below.refl _ _ | refine Below.drew ?_ | refine Below.alloc ?_ (by first | omega | (simp; done) | (simp; omega)) _))
                 · simp only [List.length_append, List.length_cons, List.length_nil]; omega
                 · first | omega | (simp; done) | (simp; omega)
                 intro v3 w3 h3 g3
                 have B3 : Below wc.heap.size wc w3 := Below.grown (by repeat (first | exact B2 | exact B1 | exact Below.refl _ _ | refine Below.drew ?_ | refine Below.alloc ?_ (by first | omega | (simp; done) | (simp; omega)) _)) g3 (by first | omega | (simp; done) | (simp; omega)) (fun k hk => (h2.block k hk).1)
                 have z3 := B3.size))
            all_goals
              go_wp2
              go_meet
              case rel => exact ⟨h3, B3⟩
      case rest =>
      as_aux_lemma =>
      obtain ⟨HO17, HB17⟩ := hcut
      have HA := aside (HO16.out.below HB17.out).bids
      have HC := aside HO17.out.bids
      have V5 : Aside (Below w.heap.size w wc) := HW0.out.trans ((V4.out.trans (HB17.out.mono hsz4)).mono HW0.out.size)
      have hl1 : (R.take q ++ [(c, x)] ++ R.drop q).length ≤ 1000 := by simp only [List.length_append, List.length_cons, List.length_nil, List.length_take, List.length_drop, ← HM.out]; omega
      have hl2 : (R.take q ++ [(c, y)] ++ R.drop q).length ≤ 1000 := by simp only [List.length_append, List.length_cons, List.length_nil, List.length_take, List.length_drop, ← HM.out]; omega
      have D := aside (Differ.mid (R.take q) (R.drop q) c x y (by rw [List.take_append_drop]; exact HON.out))
      have HPB : Aside (∀ i, i < (R.take q ++ [(c, x)] ++ R.drop q).length → 0 ≤ (R.take q ++ [(c, x)] ++ R.drop q)[i]!.2 ∧ (R.take q ++ [(c, x)] ++ R.drop q)[i]!.2 ≤ 18446744073709551615) := fun i hi => by
        rw [getElem!_pos _ i hi]
        have hm := List.getElem_mem hi
        rcases List.mem_append.1 hm with hm | hm
        · rcases List.mem_append.1 hm with hm | hm
          · exact HRB.out _ (List.mem_of_mem_take hm)
          · rw [List.mem_singleton.1 hm]; exact HXX.out
        · exact HRB.out _ (List.mem_of_mem_drop hm)
      have HPC : Aside (∀ i, i < (R.take q ++ [(c, y)] ++ R.drop q).length → 0 ≤ (R.take q ++ [(c, y)] ++ R.drop q)[i]!.2 ∧ (R.take q ++ [(c, y)] ++ R.drop q)[i]!.2 ≤ 18446744073709551615) := fun i hi => by
        rw [getElem!_pos _ i hi]
        have hm := List.getElem_mem hi
        rcases List.mem_append.1 hm with hm | hm
        · rcases List.mem_append.1 hm with hm | hm
          · exact HRB.out _ (List.mem_of_mem_take hm)
          · rw [List.mem_singleton.1 hm]; exact HYY.out
        · exact HRB.out _ (List.mem_of_mem_drop hm)
      clear HO16 HO17 HB17 HOR4 V4 HON HFM HW0 hqR hcap' hR40 HBB HRB
      obtain ⟨L1, hL1⟩ : ∃ L, L = R.take q ++ [(c, x)] ++ R.drop q := ⟨_, rfl⟩
      obtain ⟨L2, hL2⟩ : ∃ L, L = R.take q ++ [(c, y)] ++ R.drop q := ⟨_, rfl⟩
      rw [← hL1] at HA hl1 D HPB
      rw [← hL2] at HC hl2 D HPC
      clear hL1 hL2
      obtain ⟨s, j, p, ho⟩ : ∃ s j p, vickOf L1 reserve = (s, j, p) := ⟨_, _, _, rfl⟩
      obtain ⟨s', j', p', ho'⟩ : ∃ s j p, vickOf L2 reserve = (s, j, p) := ⟨_, _, _, rfl⟩
      have HO := aside ho
      have HO' := aside ho'
      have HP := aside (vickOf_price L1 reserve s j p 0 18446744073709551615 ho (by decide) (by decide) HRV.out HPB.out)
      have HP' := aside (vickOf_price L2 reserve s' j' p' 0 18446744073709551615 ho' (by decide) (by decide) HRV.out HPC.out)
      have HG := aside (D.out.gains reserve s j p s' j' p' ho ho')
      have HL1 := aside hl1
      have HL2 := aside hl2
      clear ho ho' D HPB HPC hl1 hl2 HRV
      obtain ⟨g1, hg1⟩ : ∃ g, g = (gainOf s j p c x).1 := ⟨_, rfl⟩
      obtain ⟨g2, hg2⟩ : ∃ g, g = (gainOf s j p c x).2 := ⟨_, rfl⟩
      obtain ⟨k1, hk1⟩ : ∃ g, g = (gainOf s' j' p' c x).1 := ⟨_, rfl⟩
      obtain ⟨k2, hk2⟩ : ∃ g, g = (gainOf s' j' p' c x).2 := ⟨_, rfl⟩
      have GA : Aside (∀ w, Calls Try.prog 21 #[.agg #[.int .i64 s, .int .i64 j, .int .u64 p], .int .i64 c, .int .u64 x] w fun e w' => e = .returned (.tuple #[.int .u64 g1, .int .u64 g2]) ∧ Below w.heap.size w w') := fun w => by
        rw [hg1, hg2]; exact gain_any s j p c x w HP.out HXX.out
      have GB : Aside (∀ w, Calls Try.prog 21 #[.agg #[.int .i64 s', .int .i64 j', .int .u64 p'], .int .i64 c, .int .u64 x] w fun e w' => e = .returned (.tuple #[.int .u64 k1, .int .u64 k2]) ∧ Below w.heap.size w w') := fun w => by
        rw [hk1, hk2]; exact gain_any s' j' p' c x w HP'.out HXX.out
      rw [← hg1, ← hg2, ← hk1, ← hk2] at HG
      clear hg1 hg2 hk1 hk2 HP HP' HXX HYY
      go_wp2_with fail
      refine (of_lit2 L1 _ _ s j p _ HA.out HL1.out HO.out).mono ?_
      rintro e w1 ⟨rfl, b1⟩
      go_wp2_with fail
      refine (GA.out _).mono ?_
      rintro e w2 ⟨rfl, b2⟩
      have B2 := aside (b1.trans (b2.mono b1.size))
      clear b1 b2
      go_wp2_with fail
      refine (of_lit2 L2 _ _ s' j' p' _ (HC.out.below B2.out) HL2.out HO'.out).mono ?_
      rintro e w3 ⟨rfl, b3⟩
      go_wp2_with fail
      refine (GB.out _).mono ?_
      rintro e w4 ⟨rfl, b4⟩
      have B4 := aside (b3.trans (b4.mono b3.size))
      have B5 : Aside (Below w.heap.size w w4) := V5.out.trans ((B2.out.trans (B4.out.mono B2.out.size)).mono V5.out.size)
      clear b3 b4 B2 B4 V5
      obtain ⟨hg0, hgk⟩ := HG.out
      clear HG GA GB HO HO' HA HC
      subst hg0
      by_cases hle : k1 ≤ g1
      · have hd : decide (k1 ≤ g1) = true := decide_eq_true hle
        clear hgk
        go_wp2
        go_ret
        exact ⟨rfl, B5.out⟩
      · have hd : decide (k1 ≤ g1) = false := decide_eq_false hle
        have hk : 0 < k2 := hgk.resolve_left hle
        have hd2 : decide (0 < k2) = true := decide_eq_true hk
        clear hgk
        go_wp2
        go_ret
        exact ⟨rfl, B5.out⟩

end Go.Proofs.Ytdgedckfaefohaa
