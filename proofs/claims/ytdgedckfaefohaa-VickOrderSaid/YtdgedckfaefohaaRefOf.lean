/- consignref21.Of: by definition, the same outcome. -/
import Derived.Test.YtdgedckfaefohaaRefRank
namespace Go.Proofs.Ytdgedckfaefohaa
open Go.RowKit Go.Sort
open Go.Proofs.Ytdgedckfaefohaa.Srt Go.Proofs.Ytdgedckfaefohaa.Vk

theorem vickOf_one (bs : List Bd) (reserve : Int) (h1 : bs.length = 1) (h2 : ¬ reserve < bs[(rankOf bs)[0]!]!.2) : vickOf bs reserve = ((2 : Int), bs[(rankOf bs)[0]!]!.1, reserve) := by
  have hl := length_rankOf bs
  unfold vickOf
  cases hr : rankOf bs with
  | nil => rw [hr] at hl; simp at hl; omega
  | cons x l =>
    rw [hr] at hl h2
    have e0 : (x :: l)[0]! = x := rfl
    rw [e0] at h2 ⊢
    obtain rfl : l = [] := by rw [← List.length_eq_zero_iff]; simp at hl; omega
    exact (if_neg h2)

theorem vickOf_two (bs : List Bd) (reserve : Int) (h1 : 1 < bs.length) (h2 : ¬ reserve < bs[(rankOf bs)[0]!]!.2) : vickOf bs reserve = ((2 : Int), bs[(rankOf bs)[0]!]!.1, min bs[(rankOf bs)[1]!]!.2 reserve) := by
  have hl := length_rankOf bs
  unfold vickOf
  cases hr : rankOf bs with
  | nil => rw [hr] at hl; simp at hl; omega
  | cons x l =>
    rw [hr] at hl h2
    have e0 : (x :: l)[0]! = x := rfl
    rw [e0] at h2 ⊢
    cases l with
    | nil => simp at hl; omega
    | cons y l => exact (if_neg h2)

set_option maxHeartbeats 4000000 in
set_option maxRecDepth 100000 in
theorem refOf_none (v : Value) (hv : v = .slice none 0 0 ∨ ∃ a cap, v = .slice (some a) 0 cap) (reserve : Int) (w : World) :
    Calls Try.prog 16 #[v, .int .u64 reserve] w (OfPost [] reserve w) := by
  have HR := fun W : World => aside (show Calls Try.prog 18 #[v] W (RankPost [] W) by
    rcases hv with rfl | ⟨a, cap, rfl⟩
    · exact refRank_none _ _ _
    · exact refRank_none _ _ _)
  go_enter Try.func16, Try.ntmps16
  go_wp2_with fail
  refine (HR _).out.mono ?_
  rintro e w' hq
  obtain ⟨v', rfl, ⟨b, rfl, hb1, hb2, _⟩, hb⟩ := hq
  have hlen : (rankOf []).length = 0 := rfl
  rw [hlen]
  have HB := aside hb
  have c0 : ∀ j, j < 3 → w'.cell? ⟨w.heap.size, j, none⟩ = #[Value.int .i64 0, .int .i64 0, .int .u64 0][j]? := fun j _ => by
    rw [hb.cell (p := ⟨w.heap.size, j, none⟩) (by simp)]
    simp
  have f0 : ∀ j, w'.frozen? ⟨w.heap.size, j, none⟩ = false := fun j => by
    rw [hb.frozen (p := ⟨w.heap.size, j, none⟩) (by simp)]
    simp
  have c00 := c0 0 (by omega)
  have c01 := c0 1 (by omega)
  have c02 := c0 2 (by omega)
  clear c0 hb
  go_wp2
  refine bodyPost_ret (v := outV (3, -1, 0)) (by simp [results, Try.results16, go_sem, outV, c00, c01, c02]) rfl ⟨rfl, ?_⟩
  exact ((((((Below.refl w.heap.size w).alloc (Nat.le_refl _) _).trans (HB.out.mono (by simp))).setCell (p := ⟨w.heap.size, 0, none⟩) (Nat.le_refl _) _).setCell (p := ⟨w.heap.size, 1, none⟩) (Nat.le_refl _) _).setCell (p := ⟨w.heap.size, 2, none⟩) (Nat.le_refl _) _)

set_option maxHeartbeats 4000000 in
set_option maxRecDepth 100000 in
theorem refOf_some (bs : List Bd) (lb lo cap : Nat) (reserve : Int) (w : World) (h1 : 1 ≤ bs.length) (hn : bs.length ≤ 8796093022208) (hll : lb < w.heap.size) (hl : BidCells w lb lo bs) :
    Calls Try.prog 16 #[.slice (some ⟨lb, lo, none⟩) bs.length cap, .int .u64 reserve] w (OfPost bs reserve w) := by
  obtain ⟨n, hnn⟩ : ∃ n, n = bs.length := ⟨_, rfl⟩
  have HR := fun (W : World) (hb : BidsAt W (.slice (some ⟨lb, lo, none⟩) bs.length cap) bs) => aside (refRank_any bs _ W hb (by omega))
  have hx := rank_lt bs (show 0 < bs.length by omega)
  have hlr := length_rankOf bs
  have HV0 := aside (vickOf_none bs reserve)
  have HV1 := aside (vickOf_one bs reserve)
  have HV2 := aside (vickOf_two bs reserve)
  have HY : Aside (1 < bs.length → (rankOf bs)[1]! < bs.length) := fun h => rank_lt bs h
  obtain ⟨x, hxx⟩ : ∃ x, x = (rankOf bs)[0]! := ⟨_, rfl⟩
  obtain ⟨y, hyy⟩ : ∃ x, x = (rankOf bs)[1]! := ⟨_, rfl⟩
  have HX := aside hxx
  have HYY := aside hyy
  rw [← hxx] at HV0 HV1 HV2 hx
  rw [← hyy] at HV2 HY
  obtain ⟨q, hq⟩ : ∃ q, q = bs[x]!.2 := ⟨_, rfl⟩
  obtain ⟨c, hc⟩ : ∃ c, c = bs[x]!.1 := ⟨_, rfl⟩
  obtain ⟨z, hz⟩ : ∃ q, q = bs[y]!.2 := ⟨_, rfl⟩
  have HQ := aside hq
  have HCc := aside hc
  have HZ := aside hz
  rw [← hq] at HV0 HV1 HV2
  rw [← hc] at HV1 HV2
  rw [← hz] at HV2
  have HL := aside hl
  have HLR := aside (hlr.trans hnn.symm)
  have HN := aside hnn
  rw [← hnn] at HR h1 hn hx HV0 HV1 HV2 HY ⊢
  have hn0 : ((n : Int) == 0) = false := by rw [beq_eq_false_iff_ne]; omega
  have hn0' : (0 : Int) < (n : Int) := by omega
  have hxz : (x : Int) < (n : Int) := by omega
  clear hlr hxx hyy hq hc hz hl hnn
  by_cases hrq : reserve < q
  · as_aux_lemma =>
    have HV := aside (HV0.out (Or.inr hrq))
    clear HV0 HV1 HV2
    go_enter Try.func16, Try.ntmps16
    go_wp2_with fail
    refine (HR _ (Or.inr ⟨lb, lo, cap, by rw [HN.out], fun _ => by simp; omega, HL.out.below hll ((Below.refl _ w).alloc (Nat.le_refl _) _)⟩)).out.mono ?_
    rintro e w' hq
    obtain ⟨v', rfl, ⟨b, rfl, hb1, hb2, hcell⟩, hb⟩ := hq
    rw [HLR.out]
    have HB := aside hb
    have c0 : ∀ j, j < 3 → w'.cell? ⟨w.heap.size, j, none⟩ = #[Value.int .i64 0, .int .i64 0, .int .u64 0][j]? := fun j _ => by
      rw [hb.cell (p := ⟨w.heap.size, j, none⟩) (by simp)]
      simp
    have f0 : ∀ j, w'.frozen? ⟨w.heap.size, j, none⟩ = false := fun j => by
      rw [hb.frozen (p := ⟨w.heap.size, j, none⟩) (by simp)]
      simp
    have c00 := c0 0 (by omega)
    have c01 := c0 1 (by omega)
    have c02 := c0 2 (by omega)
    have cr := (hcell 0 (by rw [HLR.out]; omega)).1
    rw [← HX.out] at cr
    have cq := ((HL.out.below hll ((Below.refl w.heap.size w).alloc (Nat.le_refl _) _)).below (by simp; omega) hb x (by rw [← HN.out]; exact hx)).2
    rw [← HQ.out] at cq
    clear c0 hb hcell HR
    go_wp2
    refine bodyPost_ret (v := outV (3, -1, 0)) (by simp [results, Try.results16, go_sem, outV, c00, c01, c02]) rfl ⟨by rw [HV.out], ?_⟩
    exact ((((((Below.refl w.heap.size w).alloc (Nat.le_refl _) _).trans (HB.out.mono (by simp))).setCell (p := ⟨w.heap.size, 0, none⟩) (Nat.le_refl _) _).setCell (p := ⟨w.heap.size, 1, none⟩) (Nat.le_refl _) _).setCell (p := ⟨w.heap.size, 2, none⟩) (Nat.le_refl _) _)
  · by_cases h2 : 1 < n
    · as_aux_lemma =>
      have HV := aside (HV2.out h2 hrq)
      have hyn := HY.out h2
      have hyz : (y : Int) < (n : Int) := by omega
      have h2z : (1 : Int) < (n : Int) := by omega
      clear HV0 HV1 HV2 HY
      go_enter Try.func16, Try.ntmps16
      go_wp2_with fail
      refine (HR _ (Or.inr ⟨lb, lo, cap, by rw [HN.out], fun _ => by simp; omega, HL.out.below hll ((Below.refl _ w).alloc (Nat.le_refl _) _)⟩)).out.mono ?_
      rintro e w' hq
      obtain ⟨v', rfl, ⟨b, rfl, hb1, hb2, hcell⟩, hb⟩ := hq
      rw [HLR.out]
      have HB := aside hb
      have c0 : ∀ j, j < 3 → w'.cell? ⟨w.heap.size, j, none⟩ = #[Value.int .i64 0, .int .i64 0, .int .u64 0][j]? := fun j _ => by
        rw [hb.cell (p := ⟨w.heap.size, j, none⟩) (by simp)]
        simp
      have f0 : ∀ j, w'.frozen? ⟨w.heap.size, j, none⟩ = false := fun j => by
        rw [hb.frozen (p := ⟨w.heap.size, j, none⟩) (by simp)]
        simp
      have c00 := c0 0 (by omega)
      have c01 := c0 1 (by omega)
      have c02 := c0 2 (by omega)
      have cr := (hcell 0 (by rw [HLR.out]; omega)).1
      rw [← HX.out] at cr
      have cy := (hcell 1 (by rw [HLR.out]; omega)).1
      rw [← HYY.out] at cy
      have hbc := (HL.out.below hll ((Below.refl w.heap.size w).alloc (Nat.le_refl _) _)).below (by simp; omega) hb
      have cq := (hbc x (by rw [← HN.out]; exact hx)).2
      rw [← HQ.out] at cq
      have ccr := (hbc x (by rw [← HN.out]; exact hx)).1
      rw [← HCc.out] at ccr
      have cz := (hbc y (by rw [← HN.out]; exact hyn)).2
      rw [← HZ.out] at cz
      clear c0 hb hcell HR hbc
      go_wp2
      refine bodyPost_ret (v := outV (2, c, min z reserve)) (by simp [results, Try.results16, go_sem, outV, c00, c01, c02]) rfl ⟨by rw [HV.out], ?_⟩
      exact ((((((Below.refl w.heap.size w).alloc (Nat.le_refl _) _).trans (HB.out.mono (by simp))).setCell (p := ⟨w.heap.size, 0, none⟩) (Nat.le_refl _) _).setCell (p := ⟨w.heap.size, 1, none⟩) (Nat.le_refl _) _).setCell (p := ⟨w.heap.size, 2, none⟩) (Nat.le_refl _) _)
    · as_aux_lemma =>
      have HV := aside (HV1.out (by omega) hrq)
      have h2z : ¬ (1 : Int) < (n : Int) := by omega
      clear HV0 HV1 HV2 HY
      go_enter Try.func16, Try.ntmps16
      go_wp2_with fail
      refine (HR _ (Or.inr ⟨lb, lo, cap, by rw [HN.out], fun _ => by simp; omega, HL.out.below hll ((Below.refl _ w).alloc (Nat.le_refl _) _)⟩)).out.mono ?_
      rintro e w' hq
      obtain ⟨v', rfl, ⟨b, rfl, hb1, hb2, hcell⟩, hb⟩ := hq
      rw [HLR.out]
      have HB := aside hb
      have c0 : ∀ j, j < 3 → w'.cell? ⟨w.heap.size, j, none⟩ = #[Value.int .i64 0, .int .i64 0, .int .u64 0][j]? := fun j _ => by
        rw [hb.cell (p := ⟨w.heap.size, j, none⟩) (by simp)]
        simp
      have f0 : ∀ j, w'.frozen? ⟨w.heap.size, j, none⟩ = false := fun j => by
        rw [hb.frozen (p := ⟨w.heap.size, j, none⟩) (by simp)]
        simp
      have c00 := c0 0 (by omega)
      have c01 := c0 1 (by omega)
      have c02 := c0 2 (by omega)
      have cr := (hcell 0 (by rw [HLR.out]; omega)).1
      rw [← HX.out] at cr
      have hbc := (HL.out.below hll ((Below.refl w.heap.size w).alloc (Nat.le_refl _) _)).below (by simp; omega) hb
      have cq := (hbc x (by rw [← HN.out]; exact hx)).2
      rw [← HQ.out] at cq
      have ccr := (hbc x (by rw [← HN.out]; exact hx)).1
      rw [← HCc.out] at ccr
      clear c0 hb hcell HR hbc
      go_wp2
      refine bodyPost_ret (v := outV (2, c, reserve)) (by simp [results, Try.results16, go_sem, outV, c00, c01, c02]) rfl ⟨by rw [HV.out], ?_⟩
      exact ((((((Below.refl w.heap.size w).alloc (Nat.le_refl _) _).trans (HB.out.mono (by simp))).setCell (p := ⟨w.heap.size, 0, none⟩) (Nat.le_refl _) _).setCell (p := ⟨w.heap.size, 1, none⟩) (Nat.le_refl _) _).setCell (p := ⟨w.heap.size, 2, none⟩) (Nat.le_refl _) _)

/-- **consignref21.Of.** -/
theorem refOf_any (bs : List Bd) (v : Value) (reserve : Int) (w : World) (hv : BidsAt w v bs) (hn : bs.length ≤ 8796093022208) : Calls Try.prog 16 #[v, .int .u64 reserve] w (OfPost bs reserve w) := by
  rcases hv with ⟨h0, rfl⟩ | ⟨lb, lo, cap, rfl, hll, hl⟩
  · exact refOf_none _ h0 _ _
  · cases bs with
    | nil => exact refOf_none _ (Or.inr ⟨_, _, rfl⟩) _ _
    | cons x l => exact refOf_some (x :: l) lb lo cap reserve w (by simp) hn (hll (by simp)) hl

end Go.Proofs.Ytdgedckfaefohaa
