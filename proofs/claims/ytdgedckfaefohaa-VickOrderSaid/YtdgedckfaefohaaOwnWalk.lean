/- consignlaw21.VickOwn, walked. -/
import Derived.Test.YtdgedckfaefohaaOwnPlain
import Derived.Test.YtdgedckfaefohaaAppBids
namespace Go.Proofs.Ytdgedckfaefohaa
open Go.RowKit Go.Sort
open Go.Proofs.Ytdgedckfaefohaa.Srt Go.Proofs.Ytdgedckfaefohaa.Vk

theorem Vk.Differ.last (R : List Bd) (c x y : Int) (h : ∀ b ∈ R, b.1 ≠ c) : Differ (R ++ [(c, x)]) (R ++ [(c, y)]) R.length c x y where
  len := by simp
  lt := by simp
  at1 := by simp
  at2 := by simp
  same := fun i hi hne => by
    have : i < R.length := by simp at hi; omega
    rw [getElem!_pos _ i (by simp; omega), getElem!_pos _ i (by simp; omega), List.getElem_append_left this, List.getElem_append_left this]
  only := fun i hi hne => by
    have hl : i < R.length := by simp at hi; omega
    rw [getElem!_pos _ i (by simp; omega), List.getElem_append_left hl]
    exact h _ (List.getElem_mem hl)

theorem of_lit2 (bs : List Bd) (v : Value) (r s c p : Int) (w : World) (hv : BidsAt w v bs) (hn : bs.length ≤ 1000) (h : vickOf bs r = (s, c, p)) :
    Calls Try.prog 15 #[v, .int .u64 r] w fun e w' => e = .returned (.agg #[.int .i64 s, .int .i64 c, .int .u64 p]) ∧ Below w.heap.size w w' :=
  (of_any bs v r w hv (by omega)).mono fun _ _ ⟨h1, h2⟩ => ⟨by rw [h1, h]; rfl, h2⟩

set_option maxHeartbeats 8000000 in
set_option maxRecDepth 100000 in
theorem own_law (bs : List Bd) (v : Value) (reserve c x y : Int) (w : World) (hv : BidsAt w v bs) (hn : bs.length ≤ 9223372036854775807) :
    Calls Try.prog 6 #[v, .int .u64 reserve, .int .i64 c, .int .u64 x, .int .u64 y] w fun e w' => e = .returned (.bool true) ∧ Below w.heap.size w w' := by
  obtain ⟨a, cap, rfl, hform⟩ := hv.form
  obtain ⟨n, hnn⟩ : ∃ n, n = bs.length := ⟨_, rfl⟩
  have HN := aside hnn
  rw [← hnn] at hn hform ⊢
  have HF := aside hform
  clear hv hnn hform
  go_enter Try.func6, Try.ntmps6
  go_wp2_with fail
  refine (works_any _).mono ?_
  rintro e w0 ⟨rfl, hb0⟩
  have HF0 : Aside (0 < n → ∃ lb lo, a = some ⟨lb, lo, none⟩ ∧ lb < w0.heap.size ∧ BidCells w0 lb lo bs) := fun h => by
    obtain ⟨lb, lo, h1, h2, h3⟩ := HF.out h
    exact ⟨lb, lo, h1, Nat.lt_of_lt_of_le h2 hb0.size, h3.below h2 hb0⟩
  have HW0 := aside hb0
  clear HF hb0
  go_wp2
  go_loopg [11, 12] n (fun g v11 v12 wr => ∃ k : Nat, v12 = .int .i64 k ∧ k ≤ n ∧ k ≤ 40 ∧ n - k ≤ g ∧ Aside (OwnBids w0.heap.size wr v11 (restTo bs c k)) ∧ Aside (Below w0.heap.size w0 wr))
  case atStart => exact ⟨0, rfl, by omega, by omega, by omega, World.ownsRow_nil _ _ _ _, Below.refl _ _⟩
  case round =>
    obtain ⟨k, rfl, hk, hk4, hg, HO, HW⟩ := hrel
    have hsz := HW.out.size
    by_cases hlt : k < n ∧ k < 40
    · as_aux_lemma =>
      obtain ⟨hlt, hlt4⟩ := hlt
      have hltz : (k : Int) < (n : Int) := by omega
      have hltz4 : (k : Int) < 40 := by omega
      obtain ⟨lb, lo, rfl, hlb, hbc⟩ := HF0.out (by omega)
      have hbc' := hbc.below hlb HW.out
      have q1 := (hbc' k (by rw [← HN.out]; exact hlt)).1
      have q2 := (hbc' k (by rw [← HN.out]; exact hlt)).2
      obtain ⟨bk, hbk⟩ : ∃ q, q = bs[k]!.2 := ⟨_, rfl⟩
      obtain ⟨ck, hck⟩ : ∃ q, q = bs[k]!.1 := ⟨_, rfl⟩
      rw [← hck] at q1
      rw [← hbk] at q2
      clear hbc hbc' HF0
      by_cases hcc : ck = c
      · have hne : (ck != c) = false := by rw [hcc]; simp
        have HRT : Aside (restTo bs c (k + 1) = restTo bs c k) := by
          show _ = _
          conv => lhs; unfold restTo
          rw [if_pos (by rw [← hck]; exact hcc)]
        clear hcc hbk hck
        go_wp2
        go_roundg (n - (k + 1))
        case measure => omega
        case rel => exact ⟨k + 1, by go_num, by omega, by omega, by omega, by rw [HRT.out]; exact HO, HW⟩
      · have hne : (ck != c) = true := by rw [bne_iff_ne]; exact hcc
        have HRT : Aside (restTo bs c (k + 1) = restTo bs c k ++ [(ck, bk)]) := by
          show _ = _
          conv => lhs; unfold restTo
          rw [if_neg (by rw [← hck]; exact hcc), hck, hbk]
        have hlr := length_restTo bs c k
        have hown := HO.out
        clear hcc hbk hck HO
        go_wp2_with (first
          | (at_builtin; refine wpList_append_bids rfl _ _ rfl w0.heap.size w0.heap.size _ (restTo bs c k) rfl (hown.alloc _) _ [(ck, bk)] rfl (OwnBids.lit _ _ [(ck, bk)] _ _ _ hsz (by simp) rfl rfl rfl) (by simp <;> omega) (by simp <;> omega) ?_)
          | fail)
        intro v' w1 hown' hgrow
        have HW1 : Aside (Below w0.heap.size w0 w1) := (HW.out.alloc hsz _).grown hgrow (by simp; omega) (fun k hk => (hown.block k hk).1)
        rw [← HRT.out] at hown'
        have HO1 := aside hown'
        clear hown hown' hgrow HW q1 q2 HRT
        go_wp2
        go_roundg (n - (k + 1))
        case measure => omega
        case rel => exact ⟨k + 1, by go_num, by omega, by omega, by omega, HO1, HW1⟩
    · as_aux_lemma =>
      have hlr := length_restTo bs c k
      have hon := restTo_only bs c k
      obtain ⟨R, hR⟩ : ∃ R, R = restTo bs c k := ⟨_, rfl⟩
      have HOR : Aside (OwnBids w0.heap.size wr u11 R) := by rw [hR]; exact HO.out
      have HON := aside hon
      rw [← hR] at hlr HON
      have hR40 : R.length ≤ 40 := by omega
      clear hlr hR hon HO HF0
      go_upto_region 5 with fail
      go_cut [24] (fun v wx => v = .bool false ∧ wx = wr)
      case first =>
        by_cases hkn : k < n
        · have hltz : (k : Int) < (n : Int) := by omega
          have hltz4 : ¬ (k : Int) < 40 := by omega
          go_wp2
          go_meet
          case rel => exact ⟨rfl, rfl⟩
        · have hltz : ¬ (k : Int) < (n : Int) := by omega
          go_wp2
          go_meet
          case rel => exact ⟨rfl, rfl⟩
      case rest =>
      obtain ⟨rfl, rfl⟩ := hcut
      have hR1 := HOR.out
      go_wp2_with (first
        | (at_builtin; refine wpList_append_bids rfl _ _ rfl wc.heap.size w0.heap.size _ [] rfl (OwnBids.lit _ _ [] _ _ _ (Nat.le_refl _) (by decide) rfl rfl rfl) _ R rfl (hR1.alloc _) (by simp <;> omega) (by simp <;> omega) ?_)
        | fail)
      intro v1 w1 h1 g1
      have W1 : Below wc.heap.size wc w1 := ((Below.refl _ wc).alloc (Nat.le_refl _) _).grown g1 (by simp <;> omega) (fun k hk => by simp [Value.ownBlock] at hk; omega)
      have hsz1 : wc.heap.size ≤ w1.heap.size := by have := W1.size; omega
      clear g1
      go_wp2_with (first
        | (at_builtin; refine wpList_append_bids rfl _ _ rfl wc.heap.size wc.heap.size _ R rfl (h1.alloc _) _ [(c, min x y)] rfl (OwnBids.lit _ _ [(c, min x y)] _ _ _ hsz1 (by simp) rfl rfl rfl) (by simp <;> omega) (by simp <;> omega) ?_)
        | fail)
      intro v2 w2 h2 g2
      have W2 : Below wc.heap.size wc w2 := (W1.alloc hsz1 _).grown g2 (by simp <;> omega) (fun k hk => (h1.block k hk).1)
      have hsz2 : wc.heap.size ≤ w2.heap.size := by have := W2.size; omega
      obtain ⟨s, j, p, ho⟩ : ∃ s j p, vickOf (R ++ [(c, min x y)]) reserve = (s, j, p) := ⟨_, _, _, rfl⟩
      have HO := aside ho
      have H2 := aside h2
      have W2 := aside W2
      clear g2 h1 h2 W1 ho hR1
      go_wp2_with fail
      refine (of_lit2 _ _ _ s j p _ H2.out.bids (by simp <;> omega) HO.out).mono ?_
      rintro e w3 ⟨rfl, hb3⟩
      have W3 : Aside (Below wc.heap.size wc w3) := W2.out.trans (hb3.mono hsz2)
      clear hb3 W2 H2 hsz2 hsz1
      go_upto_region 10 with fail
      obtain ⟨w4, hw4⟩ : ∃ w4, w4 = w3.alloc (.cells #[.int .i64 s, .int .i64 j, .int .u64 p] 25) := ⟨_, rfl⟩
      have W4 : Aside (Below wc.heap.size wc w4) := by rw [Aside, hw4]; exact W3.out.alloc W3.out.size _
      obtain ⟨B, hB⟩ : ∃ B, B = w3.heap.size := ⟨_, rfl⟩
      have hBl : B < w4.heap.size := by rw [hw4, hB]; simp
      have X0 : Aside (w4.cell? ⟨B, 0, none⟩ = some (.int .i64 s)) := by rw [Aside, hw4, hB]; simp
      have X1 : Aside (w4.cell? ⟨B, 1, none⟩ = some (.int .i64 j)) := by rw [Aside, hw4, hB]; simp
      have X2 : Aside (w4.cell? ⟨B, 2, none⟩ = some (.int .u64 p)) := by rw [Aside, hw4, hB]; simp
      have HR4 : Aside (OwnBids w0.heap.size w4 u11 R) := HOR.out.below W4.out
      have V4 : Aside (Below w0.heap.size w0 w4) := HW.out.trans (W4.out.mono hsz)
      have hsz4 := V4.out.size
      rw [← hw4, ← hB]
      clear hw4 hB W3 W4 HOR HW
      have hR1 := HR4.out
      go_wp2_with (first
        | (at_builtin; refine wpList_append_bids rfl _ _ rfl w4.heap.size w0.heap.size _ [] rfl (OwnBids.lit _ _ [] _ _ _ (Nat.le_refl _) (by decide) rfl rfl rfl) _ R rfl (hR1.alloc _) (by simp <;> omega) (by simp <;> omega) ?_)
        | fail)
      intro v1 w1 h1 g1
      have W1 : Below w4.heap.size w4 w1 := ((Below.refl _ w4).alloc (Nat.le_refl _) _).grown g1 (by simp <;> omega) (fun k hk => by simp [Value.ownBlock] at hk; omega)
      have hsz1 : w4.heap.size ≤ w1.heap.size := by have := W1.size; omega
      clear g1
      go_wp2_with (first
        | (at_builtin; refine wpList_append_bids rfl _ _ rfl w4.heap.size w4.heap.size _ R rfl (h1.alloc _) _ [(c, max x y)] rfl (OwnBids.lit _ _ [(c, max x y)] _ _ _ hsz1 (by simp) rfl rfl rfl) (by simp <;> omega) (by simp <;> omega) ?_)
        | fail)
      intro v2 w2 h2 g2
      have W2 : Below w4.heap.size w4 w2 := (W1.alloc hsz1 _).grown g2 (by simp <;> omega) (fun k hk => (h1.block k hk).1)
      have hsz2 : w4.heap.size ≤ w2.heap.size := by have := W2.size; omega
      obtain ⟨s', j', p', ho⟩ : ∃ s j p, vickOf (R ++ [(c, max x y)]) reserve = (s, j, p) := ⟨_, _, _, rfl⟩
      have HO' := aside ho
      have H2 := aside h2
      have W2 := aside W2
      clear g2 h1 h2 W1 ho hR1
      go_wp2_with fail
      refine (of_lit2 _ _ _ s' j' p' _ H2.out.bids (by simp <;> omega) HO'.out).mono ?_
      rintro e w3 ⟨rfl, hb3⟩
      have W3 : Aside (Below w4.heap.size w4 w3) := W2.out.trans (hb3.mono hsz2)
      clear hb3 W2 H2 hsz2 hsz1
      go_upto_region 11 with fail
      obtain ⟨w5, hw5⟩ : ∃ w5, w5 = w3.alloc (.cells #[.int .i64 s', .int .i64 j', .int .u64 p'] 25) := ⟨_, rfl⟩
      have V5 : Aside (Below w.heap.size w w5) := by rw [Aside, hw5]; exact HW0.out.trans ((V4.out.trans ((W3.out.alloc W3.out.size _).mono V4.out.size)).mono HW0.out.size)
      obtain ⟨C, hC⟩ : ∃ C, C = w3.heap.size := ⟨_, rfl⟩
      have W5 : Below w4.heap.size w4 w5 := by rw [hw5]; exact W3.out.alloc W3.out.size _
      have Y0 : w5.cell? ⟨C, 0, none⟩ = some (.int .i64 s') := by rw [hw5, hC]; simp
      have Y1 : w5.cell? ⟨C, 1, none⟩ = some (.int .i64 j') := by rw [hw5, hC]; simp
      have Y2 : w5.cell? ⟨C, 2, none⟩ = some (.int .u64 p') := by rw [hw5, hC]; simp
      have X0' := (W5.cell (p := ⟨B, 0, none⟩) hBl).trans X0.out
      have X1' := (W5.cell (p := ⟨B, 1, none⟩) hBl).trans X1.out
      have X2' := (W5.cell (p := ⟨B, 2, none⟩) hBl).trans X2.out
      rw [← hw5, ← hC]
      have D := aside (Differ.last R c (min x y) (max x y) HON.out)
      clear hw5 hC W3 W5 X0 X1 X2 HR4 V4 HON HW0
      by_cases hA : s' = 2 ∧ j' = c
      · as_aux_lemma =>
        obtain ⟨rfl, rfl⟩ := hA
        have hw := D.out.wins (by omega) reserve p' HO'.out
        rw [HO.out] at hw
        simp only [Prod.mk.injEq] at hw
        obtain ⟨rfl, rfl, rfl⟩ := hw
        have heq := eqOut 2 j p 2 j p
        simp only [beq_self_eq_true, Bool.and_self] at heq
        clear D HO HO'
        go_wp2
        go_ret
        exact ⟨rfl, V5.out⟩
      · as_aux_lemma =>
        have hl := fun h => D.out.loses (by omega) reserve s j p s' j' p' HO.out HO'.out h
        clear D HO HO'
        go_cut [73] (fun v wx => v = .bool false ∧ wx = w5)
        case first =>
          by_cases hs : s' = 2
          · have hb : (j' == c) = false := by rw [beq_eq_false_iff_ne]; exact fun h => hA ⟨hs, h⟩
            subst hs
            clear hl
            go_wp2
            go_meet
            case rel => exact ⟨rfl, rfl⟩
          · have hb : (s' == 2) = false := by rw [beq_eq_false_iff_ne]; exact hs
            clear hl
            go_wp2
            go_meet
            case rel => exact ⟨rfl, rfl⟩
        case rest =>
        obtain ⟨rfl, rfl⟩ := hcut
        go_upto_region 13 with fail
        by_cases hA : s = 2 ∧ j = c
        · obtain ⟨rfl, rfl⟩ := hA
          clear hl
          go_wp2
          go_ret
          exact ⟨rfl, V5.out⟩
        · have hl := hl hA
          obtain ⟨rfl, rfl, hp⟩ := hl
          go_cut [85] (fun v wx => v = .bool false ∧ wx = wc)
          case first =>
            by_cases hs : s = 2
            · have hb : (j == c) = false := by rw [beq_eq_false_iff_ne]; exact fun h => hA ⟨hs, h⟩
              subst hs
              go_wp2
              go_meet
              case rel => exact ⟨rfl, rfl⟩
            · have hb : (s == 2) = false := by rw [beq_eq_false_iff_ne]; exact hs
              go_wp2
              go_meet
              case rel => exact ⟨rfl, rfl⟩
          case rest =>
          obtain ⟨rfl, rfl⟩ := hcut
          have hd : decide (p ≤ p') = true := decide_eq_true hp
          go_wp2
          go_ret
          exact ⟨rfl, V5.out⟩

theorem own_row (bs : List Bd) (v : Value) (r c x y : Int) (w : World) (hv : BidsAt w v bs) (_ : ∀ a n c, v = .slice a n c → n ≤ c) (hn : bs.length ≤ 9223372036854775807) (_ : (Lit.int .u64 r).wf = true) (_ : (Lit.int .i64 c).wf = true) (_ : (Lit.int .u64 x).wf = true) (_ : (Lit.int .u64 y).wf = true) :
    Calls Try.prog 6 #[v, .int .u64 r, .int .i64 c, .int .u64 x, .int .u64 y] w fun e w' => e = .returned (.bool true) ∧ Below w.heap.size w w' := own_law bs v r c x y w hv hn

end Go.Proofs.Ytdgedckfaefohaa
