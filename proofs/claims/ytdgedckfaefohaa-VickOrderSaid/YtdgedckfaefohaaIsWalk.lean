/- consignlaw21.VickIs, walked. -/
import Derived.Test.YtdgedckfaefohaaIsPlain
import Derived.Test.YtdgedckfaefohaaTells
namespace Go.Proofs.Ytdgedckfaefohaa
open Go.RowKit Go.Sort
open Go.Proofs.Ytdgedckfaefohaa.Srt Go.Proofs.Ytdgedckfaefohaa.Vk

/-- A slice of bids, in one form. -/
theorem BidsAt.form {w : World} {v : Value} {bs : List Bd} (h : BidsAt w v bs) : ∃ a cap, v = .slice a bs.length cap ∧ (0 < bs.length → ∃ lb lo, a = some ⟨lb, lo, none⟩ ∧ lb < w.heap.size ∧ BidCells w lb lo bs) := by
  rcases h with ⟨rfl | ⟨a, cap, rfl⟩, rfl⟩ | ⟨lb, lo, cap, rfl, h1, h2⟩
  · exact ⟨none, 0, rfl, fun h => absurd h (Nat.lt_irrefl _)⟩
  · exact ⟨some a, cap, rfl, fun h => absurd h (Nat.lt_irrefl _)⟩
  · exact ⟨_, cap, rfl, fun h => ⟨lb, lo, rfl, h1 h, h2⟩⟩

set_option maxHeartbeats 8000000 in
set_option maxRecDepth 100000 in
theorem is_law (bs0 : List Bd) (v : Value) (reserve : Int) (w : World) (hv : BidsAt w v bs0) (hcap : ∀ a n c, v = .slice a n c → n ≤ c) (hn : bs0.length ≤ 9223372036854775807) :
    Calls Try.prog 4 #[v, .int .u64 reserve] w fun e w' => e = .returned (.bool true) ∧ Below w.heap.size w w' := by
  have HV := aside hv
  have HCP := aside hcap
  have HN0 := aside hn
  clear hv hcap hn
  go_enter Try.func4, Try.ntmps4
  go_wp2_with fail
  refine (works_any _).mono ?_
  rintro e w0 ⟨rfl, hb0⟩
  have HV0 := aside (HV.out.below hb0)
  have HW0 := aside hb0
  clear HV hb0
  go_upto_region 3 with fail
  go_cut [0] (fun s0 wx => Aside (CutTo w s0 wx))
  case first =>
    as_aux_lemma =>
    rcases HV0.out with ⟨rfl | ⟨a, cap, rfl⟩, rfl⟩ | ⟨lb, lo, cap, rfl, hll, hl⟩
    · go_wp2
      go_meet
      case rel => exact ⟨[], .inl ⟨.inl rfl, rfl⟩, by simp, HW0.out⟩
    · go_wp2
      go_meet
      case rel => exact ⟨[], .inl ⟨.inr ⟨_, _, rfl⟩, rfl⟩, by simp, HW0.out⟩
    · have hc := HCP.out _ _ _ rfl
      have hn := HN0.out
      obtain ⟨n, hnn⟩ : ∃ n, n = bs0.length := ⟨_, rfl⟩
      have HN := aside hnn
      rw [← hnn] at hc hn ⊢
      have HL := aside hl
      clear hl hnn HV0 HCP HN0
      go_wp2
      go_meet
      case rel =>
        refine ⟨bs0.take (min n 40), ?_, by simp; omega, HW0.out⟩
        rw [show (min (n : Int) 40).toNat = min n 40 by omega]
        exact BidsAt.take hll HL.out _ (by rw [← HN.out]; omega)
  case rest =>
    as_aux_lemma =>
    clear HV0 HCP HN0 HW0
    obtain ⟨bs, hB, h40, hW⟩ := hcut.out
    clear hcut
    obtain ⟨s, c, p, ho⟩ : ∃ s c p, vickOf bs reserve = (s, c, p) := ⟨_, _, _, rfl⟩
    have HO := aside ho
    have HB := aside hB
    have HW := aside hW
    have H40 := aside h40
    obtain ⟨a, cap, rfl, hform⟩ := hB.form
    clear ho hB hW
    obtain ⟨n, hnn⟩ : ∃ n, n = bs.length := ⟨_, rfl⟩
    have HN := aside hnn
    rw [← hnn] at h40 hform ⊢
    have HF := aside hform
    clear hnn hform
    go_wp2_with fail
    refine (of_lit bs _ _ s c p _ (by rw [HN.out]; exact HB.out) H40.out HO.out).mono ?_
    rintro e w1 ⟨rfl, hb1⟩
    have HF1 : Aside (0 < n → ∃ lb lo, a = some ⟨lb, lo, none⟩ ∧ lb < w1.heap.size ∧ BidCells w1 lb lo bs) := fun h => by
      obtain ⟨lb, lo, h1, h2, h3⟩ := HF.out h
      exact ⟨lb, lo, h1, Nat.lt_of_lt_of_le h2 hb1.size, h3.below h2 hb1⟩
    have HW1 := aside (HW.out.trans (hb1.mono HW.out.size))
    clear hb1 HB HW HF
    go_wp2_with fail
    obtain ⟨w2, hw2⟩ : ∃ w2, w2 = w1.alloc (.cells #[.int .i64 s, .int .i64 c, .int .u64 p] 25) := ⟨_, rfl⟩
    obtain ⟨B, hBB⟩ : ∃ B, B = w1.heap.size := ⟨_, rfl⟩
    have hBl : B < w2.heap.size := by rw [hw2, hBB]; simp
    have HF2 : Aside (0 < n → ∃ lb lo, a = some ⟨lb, lo, none⟩ ∧ lb < w2.heap.size ∧ BidCells w2 lb lo bs) := fun h => by
      obtain ⟨lb, lo, h1, h2, h3⟩ := HF1.out h
      rw [hw2]
      exact ⟨lb, lo, h1, by simp; omega, h3.below h2 ((Below.refl _ _).alloc (Nat.le_refl _) _)⟩
    have HW2 : Aside (Below w.heap.size w w2) := by rw [Aside, hw2]; exact HW1.out.alloc HW1.out.size _
    have X0 : Aside (w2.cell? ⟨B, 0, none⟩ = some (.int .i64 s)) := by rw [Aside, hw2, hBB]; simp
    have X1 : Aside (w2.cell? ⟨B, 1, none⟩ = some (.int .i64 c)) := by rw [Aside, hw2, hBB]; simp
    have X2 : Aside (w2.cell? ⟨B, 2, none⟩ = some (.int .u64 p)) := by rw [Aside, hw2, hBB]; simp
    rw [← hw2, ← hBB]
    clear hw2 hBB HF1 HW1
    go_loopg [6, 7, 8] n (fun g v6 v7 v8 wr => ∃ i : Nat, v6 = .bool (someTo bs reserve i) ∧ v7 = .int .i64 (optI (atTo bs c i)) ∧ v8 = .int .i64 i ∧ i ≤ n ∧ n - i ≤ g ∧ Aside (Below w2.heap.size w2 wr))
    case atStart => exact ⟨0, rfl, rfl, rfl, by omega, by omega, Below.refl _ _⟩
    case round =>
      obtain ⟨i, rfl, rfl, rfl, hi, hg, HW3⟩ := hrel
      by_cases hlt : i < n
      · as_aux_lemma =>
        have hltz : (i : Int) < (n : Int) := by omega
        obtain ⟨lb, lo, rfl, hlb, hbc⟩ := HF2.out (by omega)
        have HBC := aside (hbc.below hlb HW3.out)
        have q2 := (HBC.out i (by rw [← HN.out]; exact hlt)).2
        obtain ⟨bi, hbi⟩ : ∃ q, q = bs[i]!.2 := ⟨_, rfl⟩
        have HBI := aside hbi
        rw [← hbi] at q2
        obtain ⟨sb, hsb⟩ : ∃ b, b = someTo bs reserve i := ⟨_, rfl⟩
        have HSB : Aside (someTo bs reserve (i + 1) = (sb || decide (bi ≤ reserve))) := by rw [hsb, hbi]; exact rfl
        rw [← hsb]
        clear hsb hbi hbc HF2
        go_upto_region 9 with fail
        go_cut [6] (fun s6 wx => s6 = .bool (someTo bs reserve (i + 1)) ∧ wx = wr)
        case first =>
          cases sb with
          | true =>
            go_wp2
            go_meet
            case rel => exact ⟨by rw [HSB.out]; simp, rfl⟩
          | false =>
            go_wp2
            go_meet
            case rel => exact ⟨by rw [HSB.out]; simp, rfl⟩
        case rest =>
        obtain ⟨rfl, rfl⟩ := hcut
        have q1 := (HBC.out i (by rw [← HN.out]; exact hlt)).1
        obtain ⟨ci, hci⟩ : ∃ q, q = bs[i]!.1 := ⟨_, rfl⟩
        have HCI := aside hci
        rw [← hci] at q1
        have x1 := (HW3.out.cell (p := ⟨B, 1, none⟩) hBl).trans X1.out
        clear hci
        by_cases hcc : ci = c
        · subst hcc
          have hce : (ci == ci) = true := by simp
          cases hat : atTo bs ci i with
          | none =>
            have HAT : Aside (atTo bs ci (i + 1) = some i) := by
              show _ = _
              unfold atTo
              rw [hat]
              simp only
              rw [if_pos HCI.out.symm]
            clear hat
            rw [show optI none = -1 from rfl]
            go_wp2_with fail
            go_quiet (fail)
            have HW6 : Aside (Below w2.heap.size w2 (wc.drewN nq)) := below_drewN HW3.out nq
            clear HW3 x1 q1 q2 HBC
            generalize wc.drewN nq = w6 at HW6 ⊢
            go_wp2
            go_roundg (n - (i + 1))
            case measure => omega
            case rel => exact ⟨i + 1, rfl, by rw [HAT.out]; rfl, by go_num, by omega, by omega, HW6⟩
          | some k =>
            have hk := (atTo_lt bs ci i k hat).1
            have q3 := (HBC.out k (by rw [← HN.out]; omega)).2
            obtain ⟨bk, hbk⟩ : ∃ q, q = bs[k]!.2 := ⟨_, rfl⟩
            rw [← hbk] at q3
            have hkz : (k : Int) < (n : Int) := by omega
            have hk0 : ¬ (k : Int) < 0 := by omega
            rw [show optI (some k) = (k : Int) from rfl]
            by_cases hlk : bi < bk
            · have hd : decide (bi < bk) = true := decide_eq_true hlk
              have HAT : Aside (atTo bs ci (i + 1) = some i) := by
                show _ = _
                unfold atTo
                rw [hat]
                simp only
                rw [if_pos ⟨HCI.out.symm, by rw [← HBI.out, ← hbk]; exact hlk⟩]
              clear hat hbk
              go_wp2_with fail
              go_quiet (fail)
              have HW6 : Aside (Below w2.heap.size w2 (wc.drewN nq)) := below_drewN HW3.out nq
              clear HW3 x1 q1 q2 q3 HBC
              generalize wc.drewN nq = w6 at HW6 ⊢
              go_wp2
              go_roundg (n - (i + 1))
              case measure => omega
              case rel => exact ⟨i + 1, rfl, by rw [HAT.out]; rfl, by go_num, by omega, by omega, HW6⟩
            · have hd : decide (bi < bk) = false := decide_eq_false hlk
              have HAT : Aside (atTo bs ci (i + 1) = some k) := by
                show _ = _
                unfold atTo
                rw [hat]
                simp only
                rw [if_neg (fun h => hlk (by rw [HBI.out, hbk]; exact h.2))]
              clear hat hbk
              go_wp2_with fail
              go_quiet (fail)
              have HW6 : Aside (Below w2.heap.size w2 (wc.drewN nq)) := below_drewN HW3.out nq
              clear HW3 x1 q1 q2 q3 HBC
              generalize wc.drewN nq = w6 at HW6 ⊢
              go_wp2
              go_roundg (n - (i + 1))
              case measure => omega
              case rel => exact ⟨i + 1, rfl, by rw [HAT.out]; rfl, by go_num, by omega, by omega, HW6⟩
        · have hce : (ci == c) = false := by rw [beq_eq_false_iff_ne]; exact hcc
          have HAT : Aside (atTo bs c (i + 1) = atTo bs c i) := by
            show _ = _
            conv => lhs; unfold atTo
            have hne : ¬ bs[i]!.1 = c := by rw [← HCI.out]; exact hcc
            cases atTo bs c i with
            | none => simp only; rw [if_neg hne]
            | some k => simp only; rw [if_neg (fun h => hne h.1)]
          have HCC := aside hcc
          clear hcc
          go_wp2_with fail
          go_quiet (fail)
          have HW6 : Aside (Below w2.heap.size w2 (wc.drewN nq)) := below_drewN HW3.out nq
          clear HW3 x1 q1 q2 HBC
          generalize wc.drewN nq = w6 at HW6 ⊢
          go_wp2
          go_roundg (n - (i + 1))
          case measure => omega
          case rel => exact ⟨i + 1, rfl, by rw [HAT.out], by go_num, by omega, by omega, HW6⟩
      · as_aux_lemma =>
        have hltz : ¬ (i : Int) < (n : Int) := by omega
        obtain rfl : i = n := by omega
        have hS := HO.out
        cases hso : someTo bs reserve i with
        | false =>
          have hu := isUnsold bs reserve (by rw [← HN.out]; exact hso)
          rw [hS] at hu
          simp only [Prod.mk.injEq] at hu
          obtain ⟨rfl, rfl, rfl⟩ := hu
          have x0 := (HW3.out.cell (p := ⟨B, 0, none⟩) hBl).trans X0.out
          have x1 := (HW3.out.cell (p := ⟨B, 1, none⟩) hBl).trans X1.out
          have x2 := (HW3.out.cell (p := ⟨B, 2, none⟩) hBl).trans X2.out
          clear hso hS
          go_wp2_with fail
          refine (is_yes _ _ _ _).mono ?_
          rintro e w5 ⟨rfl, hb5⟩
          go_wp2
          go_ret
          exact ⟨rfl, (HW2.out.trans (HW3.out.mono HW2.out.size)).trans (hb5.mono (HW2.out.trans (HW3.out.mono HW2.out.size)).size)⟩
        | true =>
          obtain ⟨k, p', IS⟩ := isSold bs reserve (by rw [← HN.out]; exact hso)
          have hu := IS.out
          rw [hS] at hu
          simp only [Prod.mk.injEq] at hu
          obtain ⟨rfl, rfl, rfl⟩ := hu
          have hat := IS.at_
          have hkn := IS.lt
          rw [← HN.out] at hat hkn
          rw [hat, show optI (some k) = (k : Int) from rfl]
          have hkz : (k : Int) < (i : Int) := by omega
          have hk0 : ¬ (k : Int) < 0 := by omega
          obtain ⟨lb, lo, rfl, hlb, hbc0⟩ := HF2.out (by omega)
          have HBC0 := aside hbc0
          have HIS := aside IS
          have x0 := (HW3.out.cell (p := ⟨B, 0, none⟩) hBl).trans X0.out
          have x2 := (HW3.out.cell (p := ⟨B, 2, none⟩) hBl).trans X2.out
          have q3 := ((hbc0.below hlb HW3.out) k (by rw [← HN.out]; exact hkn)).2
          have hle := IS.le
          have hres := IS.res
          obtain ⟨bk, hbk⟩ : ∃ q, q = bs[k]!.2 := ⟨_, rfl⟩
          obtain ⟨c, hck⟩ : ∃ q, q = bs[k]!.1 := ⟨_, rfl⟩
          rw [← hck] at X1
          rw [← hbk] at q3 hle
          have HBK := aside hbk
          have HCK := aside hck
          have hd1 : decide (p < bk) = false := decide_eq_false (by omega)
          have hd2 : decide (reserve < p) = false := decide_eq_false (by omega)
          have hd1' : ¬ p < bk := by omega
          have hd2' : ¬ reserve < p := by omega
          clear hbk hck hso hS hat hbc0 IS
          go_wp2_with fail
          go_quiet (fail)
          have HW6 : Aside (Below w2.heap.size w2 (wr.drewN nq)) := below_drewN HW3.out nq
          clear HW3 x0 x2 q3
          generalize wr.drewN nq = w6 at HW6 ⊢
          have x2 := (HW6.out.cell (p := ⟨B, 2, none⟩) hBl).trans X2.out
          go_wp2
          clear x2
          go_loopg [9, 10] i (fun g v9 v10 wr => ∃ j : Nat, v9 = .bool (metTo bs k p (p == reserve) j) ∧ v10 = .int .i64 j ∧ j ≤ i ∧ i - j ≤ g ∧ Aside (Below w2.heap.size w2 wr))
          case atStart => exact ⟨0, rfl, rfl, by omega, by omega, HW6⟩
          case round =>
            clear HW6
            obtain ⟨j, rfl, rfl, hj, hg3, HW3⟩ := hrel
            by_cases hlt : j < i
            · have hltz : (j : Int) < (i : Int) := by omega
              by_cases hjk : j = k
              · have hje : ((j : Int) == (k : Int)) = true := by rw [beq_iff_eq]; omega
                have HMT : Aside (metTo bs k p (p == reserve) (j + 1) = metTo bs k p (p == reserve) j) := by
                  show _ = _
                  conv => lhs; unfold metTo
                  rw [if_pos hjk]
                have HJK := aside hjk
                clear hjk
                go_wp2
                go_roundg (i - (j + 1))
                case measure => omega
                case rel => exact ⟨j + 1, by rw [HMT.out], by go_num, by omega, by omega, HW3⟩
              · have hje : ((j : Int) == (k : Int)) = false := by rw [beq_eq_false_iff_ne]; omega
                obtain ⟨ha1, ha2, ha3⟩ := HIS.out.all j (by rw [← HN.out]; exact hlt) hjk
                obtain ⟨bj, hbj⟩ : ∃ q, q = bs[j]!.2 := ⟨_, rfl⟩
                obtain ⟨cj, hcj⟩ : ∃ q, q = bs[j]!.1 := ⟨_, rfl⟩
                obtain ⟨m, hm⟩ : ∃ m, m = metTo bs k p (p == reserve) j := ⟨_, rfl⟩
                have HMT : Aside (metTo bs k p (p == reserve) (j + 1) = (m || (bj == p))) := by
                  show _ = _
                  conv => lhs; unfold metTo
                  rw [if_neg hjk, hm, hbj]
                have HBJ := aside hbj
                rw [← hbj] at ha1 ha2 ha3
                rw [← hcj] at ha3
                rw [← HBK.out] at ha2 ha3
                rw [← HCK.out] at ha3
                rw [← hm]
                have x1 := (HW3.out.cell (p := ⟨B, 1, none⟩) hBl).trans X1.out
                have x2 := (HW3.out.cell (p := ⟨B, 2, none⟩) hBl).trans X2.out
                have r1 := ((HBC0.out.below hlb HW3.out) j (by rw [← HN.out]; exact hlt)).1
                have r2 := ((HBC0.out.below hlb HW3.out) j (by rw [← HN.out]; exact hlt)).2
                have r3 := ((HBC0.out.below hlb HW3.out) k (by rw [← HN.out]; exact hkn)).2
                rw [← hcj] at r1
                rw [← hbj] at r2
                rw [← HBK.out] at r3
                have hda1 : decide (bj < p) = false := decide_eq_false ha1
                have hda2 : decide (bj < bk) = false := decide_eq_false ha2
                have HJK := aside hjk
                clear hbj hcj hm hjk
                by_cases heq : bj = bk
                · have ha3' := ha3 heq
                  have hda3 : decide (cj < c) = false := decide_eq_false ha3'
                  have he : (bj == bk) = true := by rw [beq_iff_eq]; exact heq
                  clear heq ha3
                  go_wp2_with fail
                  go_quiet (fail)
                  have HW7 : Aside (Below w2.heap.size w2 (wr.drewN nq)) := below_drewN HW3.out nq
                  have y2 := (HW7.out.cell (p := ⟨B, 2, none⟩) hBl).trans X2.out
                  have t2 := ((HBC0.out.below hlb HW7.out) j (by rw [← HN.out]; exact hlt)).2
                  rw [← HBJ.out] at t2
                  clear HW3 x1 x2 r1 r2 r3
                  generalize wr.drewN nq = w7 at HW7 y2 t2 ⊢
                  cases m with
                  | true =>
                    go_wp2_with fail
                    go_quiet (fail)
                    have HW8 : Aside (Below w2.heap.size w2 (w7.drewN nq)) := below_drewN HW7.out nq
                    clear HW7 y2 t2
                    generalize w7.drewN nq = w8 at HW8 ⊢
                    go_wp2
                    go_roundg (i - (j + 1))
                    case measure => omega
                    case rel => exact ⟨j + 1, by rw [HMT.out]; simp, by go_num, by omega, by omega, HW8⟩
                  | false =>
                    go_wp2_with fail
                    go_quiet (fail)
                    have HW8 : Aside (Below w2.heap.size w2 (w7.drewN nq)) := below_drewN HW7.out nq
                    clear HW7 y2 t2
                    generalize w7.drewN nq = w8 at HW8 ⊢
                    go_wp2
                    go_roundg (i - (j + 1))
                    case measure => omega
                    case rel => exact ⟨j + 1, by rw [HMT.out]; simp, by go_num, by omega, by omega, HW8⟩
                · have he : (bj == bk) = false := by rw [beq_eq_false_iff_ne]; exact heq
                  clear heq ha3
                  go_wp2_with fail
                  go_quiet (fail)
                  have HW7 : Aside (Below w2.heap.size w2 (wr.drewN nq)) := below_drewN HW3.out nq
                  have y2 := (HW7.out.cell (p := ⟨B, 2, none⟩) hBl).trans X2.out
                  have t2 := ((HBC0.out.below hlb HW7.out) j (by rw [← HN.out]; exact hlt)).2
                  rw [← HBJ.out] at t2
                  clear HW3 x1 x2 r1 r2 r3
                  generalize wr.drewN nq = w7 at HW7 y2 t2 ⊢
                  cases m with
                  | true =>
                    go_wp2_with fail
                    go_quiet (fail)
                    have HW8 : Aside (Below w2.heap.size w2 (w7.drewN nq)) := below_drewN HW7.out nq
                    clear HW7 y2 t2
                    generalize w7.drewN nq = w8 at HW8 ⊢
                    go_wp2
                    go_roundg (i - (j + 1))
                    case measure => omega
                    case rel => exact ⟨j + 1, by rw [HMT.out]; simp, by go_num, by omega, by omega, HW8⟩
                  | false =>
                    go_wp2_with fail
                    go_quiet (fail)
                    have HW8 : Aside (Below w2.heap.size w2 (w7.drewN nq)) := below_drewN HW7.out nq
                    clear HW7 y2 t2
                    generalize w7.drewN nq = w8 at HW8 ⊢
                    go_wp2
                    go_roundg (i - (j + 1))
                    case measure => omega
                    case rel => exact ⟨j + 1, by rw [HMT.out]; simp, by go_num, by omega, by omega, HW8⟩
            · have hltz : ¬ (j : Int) < (i : Int) := by omega
              obtain rfl : j = i := by omega
              go_wp2
              go_ret
              have hmet := metTo_of bs k p (p == reserve) j (by
                rcases HIS.out.met with h | ⟨q, h1, h2, h3⟩
                · exact Or.inl (by rw [beq_iff_eq]; exact h)
                · exact Or.inr ⟨q, by rw [HN.out]; exact h1, h2, h3⟩)
              exact ⟨by rw [← hmet]; rfl, HW2.out.trans (HW3.out.mono HW2.out.size)⟩

/-- **VickIs.** -/
theorem is_row (bs : List Bd) (v : Value) (r : Int) (w : World) (hv : BidsAt w v bs) (hcap : ∀ a n c, v = .slice a n c → n ≤ c) (hn : bs.length ≤ 9223372036854775807) (_ : (Lit.int .u64 r).wf = true) :
    Calls Try.prog 4 #[v, .int .u64 r] w fun e w' => e = .returned (.bool true) ∧ Below w.heap.size w w' := is_law bs v r w hv hcap hn

end Go.Proofs.Ytdgedckfaefohaa
