/- consignref21.Rank: by definition, the same row. -/
import Derived.Test.YtdgedckfaefohaaRefAhead
namespace Go.Proofs.Ytdgedckfaefohaa
open Go.RowKit Go.Sort
open Go.Proofs.Ytdgedckfaefohaa.Srt Go.Proofs.Ytdgedckfaefohaa.Vk

/-- Behind i rounds of the reference's loop: the first i bids stand at their places; each cell holds something. -/
structure PutInv (w : World) (bs : List Bd) (i : Nat) (wr : World) : Prop where
  below : Below w.heap.size w wr
  lt : w.heap.size < wr.heap.size
  put : ∀ j, j < i → wr.cell? ⟨w.heap.size, cnt bs j bs.length, none⟩ = some (.int .i64 (j : Int))
  some : ∀ p, p < bs.length → ∃ v, wr.cell? ⟨w.heap.size, p, none⟩ = some v
  free : ∀ p, wr.frozen? ⟨w.heap.size, p, none⟩ = false

theorem PutInv.start (w : World) (bs : List Bd) : PutInv w bs 0 (w.alloc (.cells (zeroRow bs.length) 3)) := by
  have hh : (w.alloc (.cells (zeroRow bs.length) 3)).heap[w.heap.size]? = Option.some (.cells (zeroRow bs.length) 3 (0, 0)) := by
    show (w.heap.push _)[w.heap.size]? = _
    rw [Array.getElem?_push, if_pos rfl]
  exact ⟨(Below.refl _ w).alloc (Nat.le_refl _) _, by simp, fun j h => absurd h (Nat.not_lt_zero _), fun p hp => ⟨_, (cell_of_heap hh p).trans (get_zeroRow _ p hp)⟩, fun p => frozen_of_heap hh p⟩

theorem PutInv.drewN {w wr : World} {bs : List Bd} {i : Nat} (h : PutInv w bs i wr) (q : Nat) : PutInv w bs i (wr.drewN q) :=
  ⟨⟨h.below.os, h.below.tape, h.below.output, h.below.size, h.below.block⟩, h.lt, h.put, h.some, h.free⟩

theorem PutInv.step {w wr : World} {bs : List Bd} {i : Nat} (h : PutInv w bs i wr) (hi : i < bs.length) : PutInv w bs (i + 1) (wr.setCell ⟨w.heap.size, cnt bs i bs.length, none⟩ (.int .i64 (i : Int))) := by
  refine ⟨h.below.setCell (p := ⟨w.heap.size, _, none⟩) (Nat.le_refl _) _, by simpa [World.setCell] using h.lt, fun j hj => ?_, fun p hp => ?_, fun p => by rw [World.frozen?_setCell]; exact h.free p⟩
  · by_cases c : j = i
    · subst c
      obtain ⟨v, hv⟩ := h.some _ (cnt_rank bs j hi).1
      exact World.cell?_setCell_same _ _ _ hv
    · rw [World.cell?_setCell_other _ _ _ _ (by intro e; simp only [Addr.mk.injEq, true_and, and_true] at e; exact c (cnt_inj bs (by omega) hi e.symm))]
      exact h.put j (by omega)
  · by_cases c : p = cnt bs i bs.length
    · subst c
      obtain ⟨v, hv⟩ := h.some _ hp
      exact ⟨_, World.cell?_setCell_same _ _ _ hv⟩
    · obtain ⟨v, hv⟩ := h.some p hp
      exact ⟨v, by rw [World.cell?_setCell_other _ _ _ _ (by intro e; simp only [Addr.mk.injEq, true_and, and_true] at e; exact c e.symm)]; exact hv⟩

set_option maxHeartbeats 4000000 in
set_option maxRecDepth 100000 in
theorem refRank_some (bs : List Bd) (lb lo cap : Nat) (w : World) (h1 : 1 ≤ bs.length) (hn : bs.length ≤ 17592186044416) (hll : lb < w.heap.size) (hl : BidCells w lb lo bs) :
    Calls Try.prog 18 #[.slice (some ⟨lb, lo, none⟩) bs.length cap] w (RankPost bs w) := by
  obtain ⟨n, hnn⟩ : ∃ n, n = bs.length := ⟨_, rfl⟩
  have HN := aside hnn
  have HL := aside hl
  have HA := fun (W : World) (i k : Nat) (hi : i < bs.length) (hk : k < bs.length) (hW : BidCells W lb lo bs) => aside (refAhead_bs bs i k lb lo cap W hi hk hW)
  rw [← hnn] at hn h1 HA ⊢
  clear hl hnn
  have hmk := fun W => make_ints n W hn
  go_enter Try.func18, Try.ntmps18
  go_wp2
  clear hmk
  go_loopg [4] n (fun g vi wr => ∃ i : Nat, vi = .int .i64 i ∧ i ≤ n ∧ n - i ≤ g ∧ Aside (PutInv w bs i wr))
  case atStart => exact ⟨0, rfl, by omega, by omega, by rw [HN.out]; exact PutInv.start w bs⟩
  case round =>
    obtain ⟨i, rfl, hi, hg, HP⟩ := hrel
    by_cases hlt : i < n
    · have hltz : (i : Int) < (n : Int) := by omega
      go_wp2
      go_loopg [5, 6] n (fun g2 vc vk wr2 => ∃ k : Nat, vc = .int .i64 (cnt bs i k : Nat) ∧ vk = .int .i64 k ∧ k ≤ n ∧ n - k ≤ g2 ∧ Aside (PutInv w bs i wr2))
      case atStart => exact ⟨0, rfl, rfl, by omega, by omega, HP⟩
      case round =>
        clear HP
        obtain ⟨k, rfl, rfl, hk, hg2, HP⟩ := hrel
        by_cases hlt2 : k < n
        · have hltz2 : (k : Int) < (n : Int) := by omega
          have hB := HL.out.below hll HP.out.below
          have hcl := cnt_le bs i k
          have hs : Aside (cnt bs i (k + 1) = cnt bs i k + if Vk.ahead bs k i then 1 else 0) := rfl
          obtain ⟨c, hc⟩ : ∃ c, c = cnt bs i k := ⟨_, rfl⟩
          rw [← hc] at hcl hs ⊢
          clear hc
          by_cases ha : Vk.ahead bs k i
          · have hd : decide (Vk.ahead bs k i) = true := decide_eq_true ha
            have HS : Aside (cnt bs i (k + 1) = c + 1) := by rw [Aside, hs.out, if_pos ha]
            have HC := HA wr k i hlt2 hlt hB
            rw [hd] at HC
            clear hs ha hd hB
            go_wp2_with fail
            refine HC.out.mono ?_
            rintro e w2 ⟨rfl, q, rfl⟩
            have HP2 := aside (HP.out.drewN q)
            clear HP HC
            generalize wr.drewN q = w3 at HP2 ⊢
            go_wp2
            go_roundg (n - (k + 1))
            case measure => omega
            case rel => exact ⟨k + 1, by rw [HS.out]; go_num, by go_num, by omega, by omega, HP2⟩
          · have hd : decide (Vk.ahead bs k i) = false := decide_eq_false ha
            have HS : Aside (cnt bs i (k + 1) = c) := by rw [Aside, hs.out, if_neg ha]; rfl
            have HC := HA wr k i hlt2 hlt hB
            rw [hd] at HC
            clear hs ha hd hB
            go_wp2_with fail
            refine HC.out.mono ?_
            rintro e w2 ⟨rfl, q, rfl⟩
            have HP2 := aside (HP.out.drewN q)
            clear HP HC
            generalize wr.drewN q = w3 at HP2 ⊢
            go_wp2
            go_roundg (n - (k + 1))
            case measure => omega
            case rel => exact ⟨k + 1, by rw [HS.out], by go_num, by omega, by omega, HP2⟩
        · have hltz2 : ¬ (k : Int) < (n : Int) := by omega
          obtain rfl : k = n := by omega
          have hcr := cnt_rank bs i (by rw [← HN.out]; exact hlt)
          obtain ⟨v, hv⟩ := HP.out.some _ hcr.1
          have hf := HP.out.free (cnt bs i bs.length)
          have HS := aside (HP.out.step (by rw [← HN.out]; exact hlt))
          have hlt3 := hcr.1
          rw [← HN.out] at hv hf HS hlt3
          obtain ⟨c, hc⟩ : ∃ c, c = cnt bs i k := ⟨_, rfl⟩
          rw [← hc] at hv hf HS hlt3 ⊢
          have hcz : (c : Int) < (k : Int) := by omega
          clear hc hcr HP
          go_wp2
          go_roundg (k - (i + 1))
          case measure => omega
          case rel => exact ⟨i + 1, by go_num, by omega, by omega, HS⟩
    · have hltz : ¬ (i : Int) < (n : Int) := by omega
      obtain rfl : i = n := by omega
      go_wp2
      go_ret
      have P := HP.out
      refine ⟨.slice (some ⟨w.heap.size, 0, none⟩) i i, rfl, ⟨w.heap.size, by rw [length_rankOf, HN.out], Nat.le_refl _, P.lt, fun p hp => ?_⟩, P.below⟩
      rw [length_rankOf] at hp
      obtain ⟨g1, g2⟩ := cnt_sur bs hp
      have := P.put _ (by rw [HN.out]; exact g1)
      rw [g2] at this
      exact ⟨this, P.free p⟩

set_option maxHeartbeats 1000000 in
set_option maxRecDepth 100000 in
theorem refRank_none (b : Option Addr) (cap : Nat) (w : World) : Calls Try.prog 18 #[.slice b 0 cap] w (RankPost [] w) := by
  have hmk : ∀ W : World, (Instr.makeSlice 27 (.int .i64 0) (.int .i64 0)).run Try.prog W = .ok (.slice (some ⟨W.heap.size, 0, none⟩) 0 0) (W.alloc (.cells (zeroRow 0) 3)) := fun W => make_ints 0 W (by omega)
  go_enter Try.func18, Try.ntmps18
  go_wp2
  clear hmk
  refine wp_loop_rounds 1 ?_
  rw [rounds_succ]
  go_wp2
  go_ret
  refine ⟨.slice (some ⟨w.heap.size, 0, none⟩) 0 0, rfl, ⟨w.heap.size, rfl, Nat.le_refl _, by simp, fun p hp => by simp [length_rankOf] at hp⟩, (Below.refl _ w).alloc (Nat.le_refl _) _⟩

/-- **consignref21.Rank.** -/
theorem refRank_any (bs : List Bd) (v : Value) (w : World) (hv : BidsAt w v bs) (hn : bs.length ≤ 17592186044416) : Calls Try.prog 18 #[v] w (RankPost bs w) := by
  rcases hv with ⟨rfl | ⟨a, cap, rfl⟩, rfl⟩ | ⟨lb, lo, cap, rfl, hll, hl⟩
  · exact refRank_none _ _ _
  · exact refRank_none _ _ _
  · cases bs with
    | nil => exact refRank_none _ _ _
    | cons x l => exact refRank_some (x :: l) lb lo cap w (by simp) hn (hll (by simp)) hl

end Go.Proofs.Ytdgedckfaefohaa
