/- vick.Rank, walked. -/
import Derived.Test.YtdgedckfaefohaaRank
namespace Go.Proofs.Ytdgedckfaefohaa
open Go.RowKit Go.Sort
open Go.Proofs.Ytdgedckfaefohaa.Srt Go.Proofs.Ytdgedckfaefohaa.Vk

/-- A place's number as a value. -/
def encP {m : Nat} (x : Fin (m + 1)) : Value := .int .i64 ((x.val : Nat) : Int)

/-- The row of all places. -/
def places (m : Nat) : Array (Fin (m + 1)) := Array.ofFn (fun x => x)

theorem size_places (m : Nat) : (places m).size = m + 1 := Array.size_ofFn
theorem get_places (m p : Nat) (h : p < m + 1) : ((places m)[p]!).val = p := by
  rw [getElem!_pos _ p (by rw [size_places]; exact h)]
  simp [places]

/-- What the comparison says of two places. -/
def cmpP (bs : List Bd) {m : Nat} (x y : Fin (m + 1)) : Int := bidCmp bs[x.val]! bs[y.val]!

theorem cmpP_yes (bs : List Bd) {m : Nat} (x y : Fin (m + 1)) (h : x.val < y.val) : cmpP bs y x < 0 ↔ Vk.ahead bs y.val x.val :=
  ahead_of bs h _ (by unfold cmpP bidCmp orOf cmpOf; rfl)

theorem sortWorld_other {α : Type} [Inhabited α] (enc : α → Value) (w : World) (blk off m : Nat) (dk : Array α) (os : Array Obj) (a : Addr) (h1 : a.block ≠ blk) (h2 : a.block < w.heap.size) :
    (sortWorld enc w blk off m dk os).cell? a = w.cell? a := by
  unfold sortWorld
  rw [cell?_grow _ _ _ (by rw [size_putRow]; exact h2), cell?_putRow_other _ _ _ _ _ _ (Or.inl h1)]
  rfl

theorem sortWorld_below {α : Type} [Inhabited α] (enc : α → Value) (w : World) (blk off m : Nat) (dk : Array α) (os : Array Obj) (B : Nat) (hB : B ≤ w.heap.size) (hb : B ≤ blk) : Below B w (sortWorld enc w blk off m dk os) := by
  refine ⟨rfl, rfl, rfl, ?_, fun k hk => ?_⟩
  · unfold sortWorld; rw [size_grow, size_putRow]; exact Nat.le_add_right _ _
  · unfold sortWorld
    rw [heap_grow_old _ _ (by rw [size_putRow]; show k < w.heap.size; omega)]
    show (w.heap.modify blk _)[k]? = _
    rw [Array.getElem?_modify, if_neg (by omega)]

theorem cmpOK_rank (bs : List Bd) (m B lb lo cap blk : Nat) (wS : World) (hm : bs.length = m + 1) (hBne : B ≠ blk) (hlne : lb ≠ blk) (hBl : B < wS.heap.size) (hll : lb < wS.heap.size)
    (hB : wS.cell? ⟨B, 0, none⟩ = some (.slice (some ⟨lb, lo, none⟩) bs.length cap))
    (hl : ∀ j, j < bs.length → wS.cell? ⟨lb, lo + j * 2, none⟩ = some (.int .i64 bs[j]!.1) ∧ wS.cell? ⟨lb, lo + j * 2 + 1, none⟩ = some (.int .u64 bs[j]!.2)) :
    CmpOK (encP (m := m)) (fun x y => Vk.ahead bs x.val y.val) (fun x => x.val) (cmpP bs) 43 #[.pointer (some ⟨B, 0, none⟩)] blk 0 (places m).size wS where
  eg := enters_of Try.func43 (by kernel_rfl) rfl
  hc := by
    intro q os dk _ x y
    have hx : x.val < bs.length := by have := x.isLt; omega
    have hy : y.val < bs.length := by have := y.isLt; omega
    have k := fun (a : Addr) (h1 : a.block ≠ blk) (h2 : a.block < wS.heap.size) => sortWorld_other (encP (m := m)) wS blk 0 q dk os a h1 h2
    exact rankCmp x.val y.val B lb lo bs.length cap _ _ _ _ _ hx hy ((k _ hBne hBl).trans hB) ((k _ hlne hll).trans (hl _ hx).1) ((k _ hlne hll).trans (hl _ hx).2) ((k _ hlne hll).trans (hl _ hy).1) ((k _ hlne hll).trans (hl _ hy).2)
  ord := ⟨fun x y z h1 h2 => ahead_trans bs h1 h2, fun x y h => ahead_tot bs (Nat.ne_of_lt h)⟩
  yes := fun x y h => cmpP_yes bs x y h

/-- What Rank leaves. -/
def RankPost (bs : List Bd) (w : World) (e : Ending) (w' : World) : Prop := ∃ v, e = .returned v ∧ PlacesAt w w' (rankOf bs) v ∧ Below w.heap.size w w'

set_option maxHeartbeats 4000000 in
set_option maxRecDepth 100000 in
theorem rank_some (bs : List Bd) (m lb lo cap : Nat) (w : World) (hm : bs.length = m + 1) (hn : bs.length ≤ 17592186044416) (hll : lb < w.heap.size)
    (hl : ∀ j, j < bs.length → w.cell? ⟨lb, lo + j * 2, none⟩ = some (.int .i64 bs[j]!.1) ∧ w.cell? ⟨lb, lo + j * 2 + 1, none⟩ = some (.int .u64 bs[j]!.2)) :
    Calls Try.prog 17 #[.slice (some ⟨lb, lo, none⟩) bs.length cap] w (RankPost bs w) := by
  obtain ⟨n, hnn⟩ : ∃ n, n = bs.length := ⟨_, rfl⟩
  have HN : Aside (n = bs.length) := hnn
  have HM : Aside (bs.length = m + 1) := hm
  have HL : Aside _ := hl
  rw [← hnn] at hn ⊢
  have hn1 : 1 ≤ n := by omega
  clear hl hm hnn
  have hmk := fun W => make_ints n W hn
  go_enter Try.func17, Try.ntmps17
  go_wp2
  clear hmk
  go_loopg [10] n (fun g vi wr => ∃ k : Nat, vi = .int .i64 k ∧ k ≤ n ∧ n - k ≤ g ∧ Aside (FillInv w (.slice (some ⟨lb, lo, none⟩) n cap) n k wr))
  case atStart => exact ⟨0, rfl, by omega, by omega, FillInv.start _ _ _⟩
  case round =>
    obtain ⟨k, rfl, hk, hg, HF⟩ := hrel
    by_cases hlt : k < n
    · have hltz : (k : Int) < (n : Int) := by omega
      have c := (HF.out.row k hlt).1
      have f := (HF.out.row k hlt).2
      obtain ⟨old, hold⟩ : ∃ old, old = (Value.int .i64 (if k < k then (k : Int) else 0)) := ⟨_, rfl⟩
      rw [← hold] at c
      clear hold
      have S : Aside _ := HF.out.step hlt
      clear HF
      go_wp2
      go_roundg (n - (k + 1))
      case measure => omega
      case rel => exact ⟨k + 1, by go_num, by omega, by omega, S⟩
    · have hltz : ¬ (k : Int) < (n : Int) := by omega
      obtain rfl : k = n := by omega
      go_wp2_with fail
      have F := HF.out
      have hs1 : (places m).size = k := by rw [size_places, HN.out, HM.out]
      have hHo : Holds (encP (m := m)) wr (w.heap.size + 1) 0 (places m) := fun j hj => by
        have hj' : j < k := by rw [← hs1]; exact hj
        rw [Nat.zero_add]
        refine ⟨?_, (F.row j hj').2⟩
        rw [(F.row j hj').1, if_pos hj', encP, get_places m j (by rw [← size_places]; exact hj)]
      have hR : Row1 (encP (m := m)) wr (w.heap.size + 1) 0 (places m) := ⟨fun _ => rfl, hHo, by rw [F.size]; omega⟩
      have hC := cmpOK_rank bs m w.heap.size lb lo cap (w.heap.size + 1) wr HM.out (by omega) (by omega) (by rw [F.size]; omega) (by rw [F.size]; omega) (by rw [← HN.out]; exact F.box)
        (fun j hj => ⟨(F.below.cell (p := ⟨lb, _, none⟩) hll).trans (HL.out j hj).1, (F.below.cell (p := ⟨lb, _, none⟩) hll).trans (HL.out j hj).2⟩)
      refine (sortStable_s (w.heap.size + 1) 0 k k (places m) wr hC hR hs1 (by omega) (fun p hp => get_places m p (by rw [← size_places, hs1]; exact hp))).mono ?_
      rintro e w' ⟨rfl, hq⟩
      have HH : Aside _ := hHo
      have HS1 : Aside _ := hs1
      clear hC hR hHo hs1
      have HW : Aside (w.heap.size + 1 < wr.heap.size) := by rw [Aside, F.size]; omega
      have HB : Aside (Below w.heap.size w wr) := F.below
      clear F HF
      go_wp2
      go_ret
      obtain ⟨d', hd1, hd2, n', os', rfl⟩ := hq.out
      have hr : (List.range bs.length).map (fun p => (d'[p]!).val) = rankOf bs := rank_of_cells bs _
        (fun p q h1 h2 => hd2.srt p q (Nat.zero_le _) h1 (by rw [HN.out]; exact h2))
        (fun p hp => by have := (d'[p]!).isLt; rw [HM.out]; exact this)
      refine ⟨.slice (some ⟨w.heap.size + 1, 0, none⟩) k k, rfl, ⟨w.heap.size + 1, ?_, by omega, ?_, fun p hp => ?_⟩, HB.out.trans (sortWorld_below _ _ _ _ _ _ _ _ (by have := HW.out; omega) (by omega))⟩
      · rw [length_rankOf, HN.out]
      · exact lt_sortWorld _ _ _ _ _ _ _ HW.out
      · have hp' : p < k := by rw [length_rankOf, ← HN.out] at hp; exact hp
        have hh := holds_sortWorld (encP (m := m)) wr (w.heap.size + 1) 0 n' (places m) d' os' HW.out HH.out (hd1.trans HS1.out.symm) p (by rw [hd1]; exact hp')
        rw [Nat.zero_add] at hh
        refine ⟨?_, hh.2⟩
        rw [hh.1, ← hr, encP]
        rw [getElem!_pos ((List.range bs.length).map _) p (by rw [List.length_map, List.length_range, ← HN.out]; exact hp')]
        simp

/-- The library's sort at no cell. -/
theorem sortStable_none (b : Option Addr) (cap : Nat) (fv : Value) (w : World) :
    Calls Try.prog 42 #[.slice b 0 cap, fv] w fun e w' => e = .returned (.tuple #[]) ∧ w = w' := by
  have hins : ∀ w, Calls Try.prog 71 #[.slice b 0 cap, .int .i64 0, .int .i64 0, fv] w fun e w' => e = .returned (.tuple #[]) ∧ w = w' := fun w => by
    go_enter Try.func71, Try.ntmps71
    go_wp2
    refine wp_loop_rounds 1 ?_
    rw [rounds_succ]
    go_wp2
    go_end0
    exact ⟨rfl, rfl⟩
  have hst : ∀ w, Calls Try.prog 62 #[.slice b 0 cap, .int .i64 0, fv] w fun e w' => e = .returned (.tuple #[]) ∧ w = w' := fun w => by
    go_enter Try.func62, Try.ntmps62
    go_wp2
    refine wp_loop_rounds 1 ?_
    rw [rounds_succ]
    go_wp2_with (go_at_call 71; refine (hins _).mono ?_; rintro e w' ⟨rfl, rfl⟩)
    refine wp_loop_rounds 1 ?_
    rw [rounds_succ]
    go_wp2
    go_end0
    exact ⟨rfl, rfl⟩
  clear hins
  go_enter Try.func42, Try.ntmps42
  go_wp2_with (go_at_call 62; refine (hst _).mono ?_; rintro e w' ⟨rfl, rfl⟩)
  go_end0
  exact ⟨rfl, rfl⟩

set_option maxHeartbeats 1000000 in
set_option maxRecDepth 100000 in
theorem rank_none (b : Option Addr) (cap : Nat) (w : World) :
    Calls Try.prog 17 #[.slice b 0 cap] w (RankPost [] w) := by
  have hmk : ∀ W : World, (Instr.makeSlice 27 (.int .i64 0) (.int .i64 0)).run Try.prog W = .ok (.slice (some ⟨W.heap.size, 0, none⟩) 0 0) (W.alloc (.cells (zeroRow 0) 3)) := fun W => make_ints 0 W (by omega)
  go_enter Try.func17, Try.ntmps17
  go_wp2
  clear hmk
  refine wp_loop_rounds 1 ?_
  rw [rounds_succ]
  go_wp2_with (go_at_call 42; refine (sortStable_none _ _ _ _).mono ?_; rintro e w' ⟨rfl, rfl⟩)
  go_ret
  refine ⟨.slice (some ⟨w.heap.size + 1, 0, none⟩) 0 0, rfl, ⟨w.heap.size + 1, rfl, by omega, by simp, fun p hp => by simp [length_rankOf] at hp⟩, ((Below.refl _ w).alloc (Nat.le_refl _) _).alloc (by simp) _⟩

/-- **vick.Rank.** -/
theorem rank_any (bs : List Bd) (v : Value) (w : World) (hv : BidsAt w v bs) (hn : bs.length ≤ 17592186044416) : Calls Try.prog 17 #[v] w (RankPost bs w) := by
  rcases hv with ⟨rfl | ⟨a, cap, rfl⟩, rfl⟩ | ⟨lb, lo, cap, rfl, hll, hl⟩
  · exact rank_none _ _ _
  · exact rank_none _ _ _
  · cases bs with
    | nil => exact rank_none _ _ _
    | cons x l => exact rank_some (x :: l) l.length lb lo cap w rfl hn (hll (by simp)) hl

end Go.Proofs.Ytdgedckfaefohaa
