/- consignlaw21.VickTells, walked. -/
import Derived.Test.YtdgedckfaefohaaRefOf
import Derived.Test.YtdgedckfaefohaaWorks
import Derived.Deep.DeepCutAuto
import Derived.WalkSmall
namespace Go.Proofs.Ytdgedckfaefohaa
open Go.RowKit Go.Sort
open Go.Proofs.Ytdgedckfaefohaa.Srt Go.Proofs.Ytdgedckfaefohaa.Vk

theorem refOf_lit (bs : List Bd) (v : Value) (r s c p : Int) (w : World) (hv : BidsAt w v bs) (hn : bs.length ≤ 40) (h : vickOf bs r = (s, c, p)) :
    Calls Try.prog 16 #[v, .int .u64 r] w fun e w' => e = .returned (.agg #[.int .i64 s, .int .i64 c, .int .u64 p]) ∧ Below w.heap.size w w' :=
  (refOf_any bs v r w hv (by omega)).mono fun _ _ ⟨h1, h2⟩ => ⟨by rw [h1, h]; rfl, h2⟩

/-- '!=' of two outcomes that are one. -/
theorem neqOut_same (a b c : Int) (w : World) : (binOp .neq 25 (.agg #[.int .i64 a, .int .i64 b, .int .u64 c]) (.agg #[.int .i64 a, .int .i64 b, .int .u64 c])).run Try.prog w = .ok (.bool false) w := by
  have u3 := Try.underlying3
  have a3 := Try.isAgg3
  have z3 := Try.sizeOf3
  have u23 := Try.underlying23
  have a23 := Try.isAgg23
  have z23 := Try.sizeOf23
  rw [run_neq_struct, show (10000 : Nat) = 9999 + 1 from rfl, run_equalIn_agg w 9999 25 _ _ Try.structOut Try.heldOut]
  simp only [Program.fieldsOf, Try.underlying25]
  go_simp

/-- What the slice that came in is cut to. -/
def CutTo (w : World) (v : Value) (w' : World) : Prop := ∃ bs, BidsAt w' v bs ∧ bs.length ≤ 40 ∧ Below w.heap.size w w'

theorem BidsAt.take {w : World} {lb lo cap : Nat} {bs : List Bd} (hll : 0 < bs.length → lb < w.heap.size) (hl : BidCells w lb lo bs) (k : Nat) (hk : k ≤ bs.length) : BidsAt w (.slice (some ⟨lb, lo, none⟩) k cap) (bs.take k) := by
  have hlen : (bs.take k).length = k := by simp; omega
  refine .inr ⟨lb, lo, cap, by rw [hlen], fun h => hll (by omega), fun j hj => ?_⟩
  rw [hlen] at hj
  have : (bs.take k)[j]! = bs[j]! := by
    rw [getElem!_pos _ j (by omega), getElem!_pos bs j (by omega), List.getElem_take]
  rw [this]
  exact hl j (by omega)

set_option maxHeartbeats 4000000 in
set_option maxRecDepth 100000 in
theorem tells_any (bs : List Bd) (v : Value) (reserve : Int) (w : World) (hv : BidsAt w v bs) (hcap : ∀ a n c, v = .slice a n c → n ≤ c) (hn : bs.length ≤ 9223372036854775807) :
    Calls Try.prog 3 #[v, .int .u64 reserve] w fun e w' => e = .returned (.bool true) ∧ Below w.heap.size w w' := by
  have HV := aside hv
  have HCP := aside hcap
  have hns := fun a b c W => neqOut_same a b c W
  clear hv hcap
  go_enter Try.func3, Try.ntmps3
  go_upto_region 1 with fail
  go_cut [0] (fun s0 wx => Aside (CutTo w s0 wx))
  case first =>
    as_aux_lemma =>
    rcases HV.out with ⟨rfl | ⟨a, cap, rfl⟩, rfl⟩ | ⟨lb, lo, cap, rfl, hll, hl⟩
    · go_wp2
      go_meet
      case rel => exact ⟨[], .inl ⟨.inl rfl, rfl⟩, by simp, Below.refl _ _⟩
    · go_wp2
      go_meet
      case rel => exact ⟨[], .inl ⟨.inr ⟨_, _, rfl⟩, rfl⟩, by simp, Below.refl _ _⟩
    · have hc := HCP.out _ _ _ rfl
      obtain ⟨n, hnn⟩ : ∃ n, n = bs.length := ⟨_, rfl⟩
      have HN := aside hnn
      rw [← hnn] at hc hn ⊢
      have HL := aside hl
      clear hl hnn HV HCP
      go_wp2
      go_meet
      case rel =>
        refine ⟨bs.take (min n 40), ?_, by simp; omega, Below.refl _ _⟩
        rw [show (min (n : Int) 40).toNat = min n 40 by omega]
        exact BidsAt.take hll HL.out _ (by rw [← HN.out]; omega)
  case rest =>
    as_aux_lemma =>
    clear HV HCP
    obtain ⟨bs, hB, h40, hW⟩ := hcut.out
    clear hcut
    obtain ⟨s, c, p, ho⟩ : ∃ s c p, vickOf bs reserve = (s, c, p) := ⟨_, _, _, rfl⟩
    have HO := aside ho
    have HB := aside hB
    have HW := aside hW
    have H40 := aside h40
    clear ho hB hW h40
    go_wp2_with fail
    refine (of_lit bs _ _ s c p _ HB.out H40.out HO.out).mono ?_
    rintro e w1 ⟨rfl, hb1⟩
    have HB1 := aside (HB.out.below hb1)
    have HW1 := aside (HW.out.trans (hb1.mono HW.out.size))
    clear hb1 HB HW
    go_wp2_with fail
    refine (refOf_lit bs _ _ s c p _ HB1.out H40.out HO.out).mono ?_
    rintro e w2 ⟨rfl, hb2⟩
    have HB2 := aside (HB1.out.below hb2)
    have HW2 := aside (HW1.out.trans (hb2.mono HW1.out.size))
    clear hb2 HB1 HW1
    go_wp2_with fail
    clear hns
    have hlr := length_rankOf bs
    obtain ⟨n, hnn⟩ : ∃ n, n = bs.length := ⟨_, rfl⟩
    have HN := aside hnn
    have h40 := H40.out
    rw [← hnn] at h40 hlr
    have HLR := aside hlr
    clear hnn hlr
    refine (rank_any bs _ _ HB2.out (by have := H40.out; omega)).mono ?_
    rintro e w3 ⟨v3, rfl, ⟨b3, rfl, hb31, hb32, hc3⟩, hb3⟩
    rw [HLR.out] at hc3 ⊢
    have HB3 := aside (HB2.out.below hb3)
    have HW3 := aside (HW2.out.trans (hb3.mono HW2.out.size))
    have HC3 := aside hc3
    clear hb3 HB2 HW2 hc3
    go_wp2_with fail
    refine (refRank_any bs _ _ HB3.out (by have := H40.out; omega)).mono ?_
    rintro e w4 ⟨v4, rfl, ⟨b4, rfl, hb41, hb42, hc4⟩, hb4⟩
    rw [HLR.out] at hc4 ⊢
    have HW4 := aside (HW3.out.trans (hb4.mono HW3.out.size))
    have HC3' : Aside (∀ p, p < n → w4.cell? ⟨b3, p, none⟩ = some (.int .i64 ((rankOf bs)[p]! : Int))) := fun p hp => (hb4.cell (p := ⟨b3, p, none⟩) hb32).trans (HC3.out p hp).1
    have HC4 : Aside (∀ p, p < n → w4.cell? ⟨b4, p, none⟩ = some (.int .i64 ((rankOf bs)[p]! : Int))) := fun p hp => (hc4 p hp).1
    have hb3l : b3 < w4.heap.size := by have := hb4.size; omega
    clear hb4 HB3 HW3 hc4 HC3
    go_wp2
    go_loopg [7] n (fun g vi wr => ∃ i : Nat, vi = .int .i64 i ∧ i ≤ n ∧ n - i ≤ g ∧ Aside (Below w4.heap.size w4 wr))
    case atStart => exact ⟨0, rfl, by omega, by omega, Below.refl _ _⟩
    case round =>
      obtain ⟨i, rfl, hi, hg, HW5⟩ := hrel
      by_cases hlt : i < n
      · have hltz : (i : Int) < (n : Int) := by omega
        have c3 := (HW5.out.cell (p := ⟨b3, i, none⟩) hb3l).trans (HC3'.out i hlt)
        have c4 := (HW5.out.cell (p := ⟨b4, i, none⟩) hb42).trans (HC4.out i hlt)
        obtain ⟨x, hx⟩ : ∃ x, x = (rankOf bs)[i]! := ⟨_, rfl⟩
        rw [← hx] at c3 c4
        have hxx : ((x : Int) != (x : Int)) = false := by simp
        clear hx
        go_wp2_with fail
        go_quiet (fail)
        have HW6 : Aside (Below w4.heap.size w4 (wr.drewN nq)) := below_drewN HW5.out nq
        clear HW5 c3 c4
        generalize wr.drewN nq = w6 at HW6 ⊢
        go_wp2
        go_roundg (n - (i + 1))
        case measure => omega
        case rel => exact ⟨i + 1, by go_num, by omega, by omega, HW6⟩
      · have hltz : ¬ (i : Int) < (n : Int) := by omega
        go_wp2_with fail
        refine (works_any _).mono ?_
        rintro e w7 ⟨rfl, hb7⟩
        go_wp2
        go_ret
        exact ⟨rfl, (HW4.out.trans (HW5.out.mono HW4.out.size)).trans (hb7.mono (HW4.out.trans (HW5.out.mono HW4.out.size)).size)⟩

end Go.Proofs.Ytdgedckfaefohaa
