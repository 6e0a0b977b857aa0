/- consignlaw21.VickOrder, walked. -/
import Derived.Test.YtdgedckfaefohaaOrderPlain
import Derived.Test.YtdgedckfaefohaaTruthWalk
import Derived.Test.YtdgedckfaefohaaMem
import Derived.Test.YtdgedckfaefohaaOpenTwo
namespace Go.Proofs.Ytdgedckfaefohaa
open Go.RowKit Go.Sort
open Go.Proofs.Ytdgedckfaefohaa.Srt Go.Proofs.Ytdgedckfaefohaa.Vk

theorem BidsAt.drop {w : World} {lb lo cap : Nat} {bs : List Bd} (hll : 0 < bs.length → lb < w.heap.size) (hl : BidCells w lb lo bs) (q : Nat) (hq : q ≤ bs.length) : BidsAt w (.slice (some ⟨lb, lo + q * 2, none⟩) (bs.length - q) (cap - q)) (bs.drop q) := by
  refine .inr ⟨lb, lo + q * 2, cap - q, by rw [List.length_drop], fun h => hll (by rw [List.length_drop] at h; omega), fun j hj => ?_⟩
  rw [List.length_drop] at hj
  rw [getElem!_pos _ j (by rw [List.length_drop]; exact hj), List.getElem_drop, ← getElem!_pos bs (q + j) (by omega), show lo + q * 2 + j * 2 = lo + (q + j) * 2 by omega]
  exact hl (q + j) (by omega)

/-- What the slice that came in is cut to, with its room. -/
def CutCap (w : World) (v : Value) (w' : World) : Prop := ∃ bs, BidsAt w' v bs ∧ bs.length ≤ 40 ∧ (∀ a n c, v = .slice a n c → n ≤ c) ∧ Below w.heap.size w w'

/-- What stays known all along. -/
structure OrdI (w : World) (B : Nat) (s c p : Int) (bs : List Bd) (v : Value) (W : World) : Prop where
  x0 : W.cell? ⟨B, 0, none⟩ = some (.int .i64 s)
  x1 : W.cell? ⟨B, 1, none⟩ = some (.int .i64 c)
  x2 : W.cell? ⟨B, 2, none⟩ = some (.int .u64 p)
  bids : BidsAt W v bs
  new : Below w.heap.size w W

theorem OrdI.on {w : World} {B : Nat} {s c p : Int} {bs : List Bd} {v : Value} {W W' : World} (h : OrdI w B s c p bs v W) (hb : Below W.heap.size W W') : OrdI w B s c p bs v W' :=
  ⟨st_cell _ _ _ _ h.x0 hb, st_cell _ _ _ _ h.x1 hb, st_cell _ _ _ _ h.x2 hb, h.bids.below hb, st_new _ _ _ h.new hb⟩

theorem ordS {w W W' : World} {B : Nat} {s c p : Int} {bs : List Bd} {v : Value} (h : OrdI w B s c p bs v W) (hb : Aside (Below W.heap.size W W')) :
    W'.cell? ⟨B, 0, none⟩ = some (.int .i64 s) ∧ W'.cell? ⟨B, 1, none⟩ = some (.int .i64 c) ∧ W'.cell? ⟨B, 2, none⟩ = some (.int .u64 p) ∧ Aside (Below W.heap.size W W') :=
  ⟨(h.on hb.out).x0, (h.on hb.out).x1, (h.on hb.out).x2, hb⟩

theorem BidsAt.cells {W : World} {a : Option Addr} {n cap : Nat} {bs : List Bd} (h : BidsAt W (.slice a n cap) bs) (h0 : 0 < bs.length) : ∃ lb lo, a = some ⟨lb, lo, none⟩ ∧ BidCells W lb lo bs := by
  obtain ⟨a', cap', e, hf⟩ := h.form
  injection e with e1
  subst e1
  obtain ⟨lb, lo, h1, _, h3⟩ := hf h0
  exact ⟨lb, lo, h1, h3⟩

/-- At a step that is guarded. -/
theorem step_append_bids_w {ops : Array Oper} {o : Oper} {a : Act} {K : Act → World → Prop} {Q : Exit → Act → World → Prop} {E : Prop} {w : World} (hw : Region.wanted o (yielded ops a.tmps) = true) (s x : Operand)
    (ho : o.op = .call { callee := .builtin .append, args := #[s, x], argTypes := #[22, 22] })
    (base : Nat) (v : Value) (bs : List Bd) (hs : a.eval s = v) (hown : OwnBids base w v bs) (vr : Value) (R : List Bd) (hx : a.eval x = vr) (hr : BidsAt w vr R)
    (hlen : bs.length + R.length ≤ 1000) (hbase : base ≤ w.heap.size)
    (h : ∀ v' w', OwnBids base w' v' (bs ++ R) → w.grownBy w' v.ownBlock → K (a.put o.dst v') w') :
    if Region.wanted o (yielded ops a.tmps) = true then Oper.wp Try.prog o a w K Q else E := by
  rw [if_pos hw]
  exact wp_append_any s x ho base v bs hs hown vr R hx hr hlen hbase h

/-- The row of bools that is made. -/
def falseRow (n : Nat) : Array Value := madeCells #[.bool false] n

theorem size_falseRow (n : Nat) : (falseRow n).size = n := size_madeCells _ _
theorem get_falseRow (n j : Nat) (h : j < n) : (falseRow n)[j]? = some (.bool false) := by
  unfold falseRow madeCells
  rw [Array.getElem?_map, Array.getElem?_range, if_pos h]
  simp [Nat.mod_one]

theorem Try.infoBool : (Try.prog.info? 4).map (fun i => (i.zero, i.size, i.bytes)) = some (some (.bool false), 1, 1) := by kernel_rfl

theorem make_bools (n : Nat) (w : World) (hn : n ≤ 17592186044416) : (Instr.makeSlice 39 (.int .i64 (n : Int)) (.int .i64 (n : Int))).run Try.prog w = .ok (.slice (some ⟨w.heap.size, 0, none⟩) n n) (w.alloc (.cells (falseRow n) 4)) := by
  obtain ⟨i0, hi, hz0, hz1, hz2⟩ := info_parts Try.infoBool
  have := run_make (P := Try.prog) w 39 4 i0 (.bool false) Try.underlying39 hi hz0 .i64 .i64 n n (by omega) (by omega) (by rw [hz2]; omega) (by omega)
  rw [hz1] at this
  simpa [falseRow, Value.cells] using this

/-- Behind i rounds: which places have been seen. -/
def SeenInv (bs : List Bd) (n D i : Nat) (W : World) : Prop := ∀ j, j < n → W.cell? ⟨D, j, none⟩ = some (.bool (seenTo bs i j)) ∧ W.frozen? ⟨D, j, none⟩ = false

theorem SeenInv.start (bs : List Bd) (n : Nat) (w : World) : SeenInv bs n w.heap.size 0 (w.alloc (.cells (falseRow n) 4)) := fun j hj => by
  have h : (w.alloc (.cells (falseRow n) 4)).heap[w.heap.size]? = some (.cells (falseRow n) 4 (0, 0)) := by
    show (w.heap.push _)[w.heap.size]? = _
    simp
  refine ⟨?_, frozen_of_heap h j⟩
  rw [cell_of_heap h, get_falseRow n j hj]
  simp [seenTo]

theorem SeenInv.step {bs : List Bd} {n D i : Nat} {W : World} (h : SeenInv bs n D i W) (hn : n = bs.length) (hi : i < n) (x : Nat) (hx : x = (rankOf bs)[i]!) : SeenInv bs n D (i + 1) (W.setCell ⟨D, x, none⟩ (.bool true)) := fun j hj => by
  have hxn : x < n := by rw [hx, hn]; exact rank_lt bs (by omega)
  refine ⟨?_, by rw [World.frozen?_setCell]; exact (h j hj).2⟩
  rw [seenTo_step bs (by omega) j, ← hx]
  by_cases e : j = x
  · subst e
    rw [if_pos rfl, World.cell?_setCell_same _ _ _ (h j hj).1]
  · rw [if_neg e, World.cell?_setCell_other _ _ _ _ (by intro e'; simp only [Addr.mk.injEq] at e'; omega)]
    exact (h j hj).1

set_option maxHeartbeats 8000000 in
set_option maxRecDepth 100000 in
theorem order_law (bs0 : List Bd) (v : Value) (reserve z above : Int) (w : World) (hv : BidsAt w v bs0) (hcap : ∀ a n c, v = .slice a n c → n ≤ c) (hn : bs0.length ≤ 9223372036854775807) (hz : 0 ≤ z ∧ z ≤ 255) :
    Calls Try.prog 7 #[v, .int .u64 reserve, .int .u8 z, .int .u64 above] w fun e w' => e = .returned (.bool true) ∧ Below w.heap.size w w' := by
  have HV := aside hv
  have HCP := aside hcap
  have HN0 := aside hn
  obtain ⟨hz0, hz1⟩ := hz
  clear hv hcap hn
  go_enter Try.func7, Try.ntmps7
  go_wp2_with fail
  refine (works_any _).mono ?_
  rintro e w0 ⟨rfl, hb0⟩
  have HV0 := aside (HV.out.below hb0)
  have HW0 := aside hb0
  clear HV hb0
  go_upto_region 3 with fail
  go_cut [0] (fun s0 wx => Aside (CutCap w s0 wx))
  case first =>
    as_aux_lemma =>
    rcases HV0.out with ⟨rfl | ⟨a, cap, rfl⟩, rfl⟩ | ⟨lb, lo, cap, rfl, hll, hl⟩
    · go_wp2
      go_meet
      case rel => exact ⟨[], .inl ⟨.inl rfl, rfl⟩, by simp, fun a n c e => (by injection e with _ e2 e3; omega), HW0.out⟩
    · go_wp2
      go_meet
      case rel => exact ⟨[], .inl ⟨.inr ⟨_, _, rfl⟩, rfl⟩, by simp, fun a n c e => (by injection e with _ e2 e3; omega), HW0.out⟩
    · have hc := HCP.out _ _ _ rfl
      have hn := HN0.out
      obtain ⟨n, hnn⟩ : ∃ n, n = bs0.length := ⟨_, rfl⟩
      have HN := aside hnn
      rw [← hnn] at hc hn ⊢
      have HL := aside hl
      clear hl hnn HV0 HCP HN0
      go_wp2
      go_meet
      case rel =>
        refine ⟨bs0.take (min n 40), ?_, by simp; omega, fun a n c e => (by injection e with _ e2 e3; omega), HW0.out⟩
        rw [show (min (n : Int) 40).toNat = min n 40 by omega]
        exact BidsAt.take hll HL.out _ (by rw [← HN.out]; omega)
  case rest =>
    as_aux_lemma =>
    clear HV0 HCP HN0 HW0
    obtain ⟨v, rfl⟩ : ∃ v, v = u0 := ⟨_, rfl⟩
    obtain ⟨bs, hB, h40, hcc, hW⟩ := hcut.out
    clear hcut
    obtain ⟨s, c, p, ho⟩ : ∃ s c p, vickOf bs reserve = (s, c, p) := ⟨_, _, _, rfl⟩
    have HO := aside ho
    have HB := aside hB
    have HW := aside hW
    have H40 := aside h40
    clear ho hB hW h40
    go_wp2_with fail
    refine (of_lit bs _ _ s c p _ HB.out H40.out HO.out).mono ?_
    rintro e w1 ⟨rfl, hb1⟩
    have HB1 := aside (HB.out.below hb1)
    have HW1 := aside (HW.out.trans (hb1.mono HW.out.size))
    clear hb1 HB HW
    go_upto_region 5 with fail
    obtain ⟨w2, hw2⟩ : ∃ w2, w2 = w1.alloc (.cells #[.int .i64 s, .int .i64 c, .int .u64 p] 25) := ⟨_, rfl⟩
    obtain ⟨B, hBB⟩ : ∃ B, B = w1.heap.size := ⟨_, rfl⟩
    have hBl : B < w2.heap.size := by rw [hw2, hBB]; simp
    have HB2 : Aside (BidsAt w2 v bs) := by rw [Aside, hw2]; exact HB1.out.below ((Below.refl _ _).alloc (Nat.le_refl _) _)
    have HW2 : Aside (Below w.heap.size w w2) := by rw [Aside, hw2]; exact HW1.out.alloc HW1.out.size _
    have X0 : Aside (w2.cell? ⟨B, 0, none⟩ = some (.int .i64 s)) := by rw [Aside, hw2, hBB]; simp
    have X1 : Aside (w2.cell? ⟨B, 1, none⟩ = some (.int .i64 c)) := by rw [Aside, hw2, hBB]; simp
    have X2 : Aside (w2.cell? ⟨B, 2, none⟩ = some (.int .u64 p)) := by rw [Aside, hw2, hBB]; simp
    rw [← hw2, ← hBB]
    -- WALK ON
    have HI := aside (OrdI.mk X0.out X1.out X2.out HB2.out HW2.out)
    have HCC := aside hcc
    obtain ⟨n, hnn⟩ : ∃ n, n = bs.length := ⟨_, rfl⟩
    have HN := aside hnn
    have h40 := H40.out
    rw [← hnn] at h40
    clear hw2 hBB HB1 HW1 HB2 HW2 X0 X1 X2 hnn hcc hBl H40
    obtain ⟨a, cap, rfl, hform⟩ : ∃ a cap, v = .slice a n cap ∧ ((a = none ∧ n = 0 ∧ bs = [] ∧ cap = 0) ∨ (n = 0 ∧ bs = [] ∧ ∃ a0, a = some a0) ∨ ∃ lb lo, a = some ⟨lb, lo, none⟩ ∧ (0 < bs.length → lb < w2.heap.size) ∧ BidCells w2 lb lo bs) := by
      rcases HI.out.bids with ⟨rfl | ⟨a, cap, rfl⟩, rfl⟩ | ⟨lb, lo, cap, rfl, h1, h2⟩
      · exact ⟨none, 0, by rw [HN.out]; rfl, .inl ⟨rfl, by rw [HN.out]; rfl, rfl, rfl⟩⟩
      · exact ⟨some a, cap, by rw [HN.out]; rfl, .inr (.inl ⟨by rw [HN.out]; rfl, rfl, a, rfl⟩)⟩
      · exact ⟨_, cap, by rw [HN.out], .inr (.inr ⟨lb, lo, rfl, h1, h2⟩)⟩
    have hncap : n ≤ cap := HCC.out _ _ _ rfl
    have HF := aside hform
    clear hform HCC
    obtain ⟨q, hq⟩ : ∃ q : Nat, (q : Int) = z % ((n : Int) + 1) := ⟨(z % ((n : Int) + 1)).toNat, Int.toNat_of_nonneg (Int.emod_nonneg _ (by omega))⟩
    have hqn : q ≤ n := by have := Int.emod_lt_of_pos z (show 0 < (n : Int) + 1 by omega); omega
    have hnz : ((n : Int) + 1 == 0) = false := by rw [beq_eq_false_iff_ne]; omega
    go_upto_region 6 with fail
    rw [← hq]
    clear hq hnz
    go_cut [11] (fun v wx => Aside (OwnBids w2.heap.size wx v (bs.drop q ++ bs.take q)) ∧ Aside (Below w2.heap.size w2 wx))
    case first =>
      rcases HF.out with ⟨rfl, rfl, rfl, rfl⟩ | ⟨rfl, rfl, a0, rfl⟩ | ⟨lb, lo, rfl, hll, hl⟩
      · as_aux_lemma =>
        obtain rfl : q = 0 := by omega
        clear HF HI HO HN
        go_region_held3 (fun _ => True) (exact trivial) (first
          | (refine step_append_bids rfl _ _ rfl w2.heap.size (.slice (some ⟨_, 0, none⟩) 0 0) [] rfl ?_ (.slice none 0 0) [] rfl ?_ ?_ ?_ ?_
             · exact OwnBids.at_ [] (by first | omega | (simp; done) | (simp; omega)) (by first | (simp only [heapDrew, heapAlloc, Array.getElem?_push]; simp; done) | (simp only [heapAlloc, Array.getElem?_push]; simp; done)) rfl rfl (by simp)
             · exact .inl ⟨.inl rfl, rfl⟩
             · exact Nat.le_of_ble_eq_true rfl
             · first | omega | (simp; done) | (simp; omega)
             intro v1 wz1 h1 g1
             have B1 : Below w2.heap.size w2 wz1 := Below.grown (by repeat (first | exact B2 | exact B1 | exact Below.refl _ _ | refine Below.drew ?_ | refine Below.alloc ?_ (by first | omega | (simp; done) | (simp; omega)) _)) g1 (by first | omega | (simp; done) | (simp; omega)) (fun k hk => by simp [Value.ownBlock] at hk; omega)
             have z1 := B1.size)
          | (refine step_append_bids rfl _ _ rfl w2.heap.size v1 ([] ++ []) rfl ?_ (.slice none 0 0) [] rfl ?_ ?_ ?_ ?_
             · exact h1
             · exact .inl ⟨.inl rfl, rfl⟩
             · exact Nat.le_of_ble_eq_true rfl
             · first | omega | (simp; done) | (simp; omega)
             intro v2 wz2 h2 g2
             have B2 : Below w2.heap.size w2 wz2 := Below.grown (by repeat (first | exact B2 | exact B1 | exact Below.refl _ _ | refine Below.drew ?_ | refine Below.alloc ?_ (by first | omega | (simp; done) | (simp; omega)) _)) g2 (by first | omega | (simp; done) | (simp; omega)) (fun k hk => (h1.block k hk).1)
             have z2 := B2.size))
        all_goals
          go_wp2
          go_meet
          case rel => exact ⟨h2, B2⟩
      · as_aux_lemma =>
        obtain rfl : q = 0 := by omega
        clear HF HI HO HN
        by_cases hc0 : cap = 0
        · subst hc0
          go_region_held3 (fun _ => True) (exact trivial) (first
            | (refine step_append_bids rfl _ _ rfl w2.heap.size (.slice (some ⟨_, 0, none⟩) 0 0) [] rfl ?_ _ [] rfl ?_ ?_ ?_ ?_
               · exact OwnBids.at_ [] (by first | omega | (simp; done) | (simp; omega)) (by first | (simp only [heapDrew, heapAlloc, Array.getElem?_push]; simp; done) | (simp only [heapAlloc, Array.getElem?_push]; simp; done)) rfl rfl (by simp)
               · exact .inl ⟨.inr ⟨_, _, rfl⟩, rfl⟩
               · exact Nat.le_of_ble_eq_true rfl
               · first | omega | (simp; done) | (simp; omega)
               intro v1 wz1 h1 g1
               have B1 : Below w2.heap.size w2 wz1 := Below.grown (by repeat (first | exact B2 | exact B1 | exact Below.refl _ _ | refine Below.drew ?_ | refine Below.alloc ?_ (by first | omega | (simp; done) | (simp; omega)) _)) g1 (by first | omega | (simp; done) | (simp; omega)) (fun k hk => by simp [Value.ownBlock] at hk; omega)
               have z1 := B1.size)
            | (refine step_append_bids rfl _ _ rfl w2.heap.size v1 ([] ++ []) rfl ?_ _ [] rfl ?_ ?_ ?_ ?_
               · exact h1
               · exact .inl ⟨.inr ⟨_, _, rfl⟩, rfl⟩
               · exact Nat.le_of_ble_eq_true rfl
               · first | omega | (simp; done) | (simp; omega)
               intro v2 wz2 h2 g2
               have B2 : Below w2.heap.size w2 wz2 := Below.grown (by repeat (first | exact B2 | exact B1 | exact Below.refl _ _ | refine Below.drew ?_ | refine Below.alloc ?_ (by first | omega | (simp; done) | (simp; omega)) _)) g2 (by first | omega | (simp; done) | (simp; omega)) (fun k hk => (h1.block k hk).1)
               have z2 := B2.size))
          all_goals
            go_wp2
            go_meet
            case rel => exact ⟨h2, B2⟩
        · have hc1 : ¬ cap = 0 := hc0
          have ha0 : a0.add 0 = a0 := rfl
          go_region_held3 (fun _ => True) (exact trivial) (first
            | (refine step_append_bids rfl _ _ rfl w2.heap.size (.slice (some ⟨_, 0, none⟩) 0 0) [] rfl ?_ _ [] rfl ?_ ?_ ?_ ?_
               · exact OwnBids.at_ [] (by first | omega | (simp; done) | (simp; omega)) (by first | (simp only [heapDrew, heapAlloc, Array.getElem?_push]; simp; done) | (simp only [heapAlloc, Array.getElem?_push]; simp; done)) rfl rfl (by simp)
               · exact .inl ⟨.inr ⟨_, _, rfl⟩, rfl⟩
               · exact Nat.le_of_ble_eq_true rfl
               · first | omega | (simp; done) | (simp; omega)
               intro v1 wz1 h1 g1
               have B1 : Below w2.heap.size w2 wz1 := Below.grown (by repeat (first | exact B2 | exact B1 | exact Below.refl _ _ | refine Below.drew ?_ | refine Below.alloc ?_ (by first | omega | (simp; done) | (simp; omega)) _)) g1 (by first | omega | (simp; done) | (simp; omega)) (fun k hk => by simp [Value.ownBlock] at hk; omega)
               have z1 := B1.size)
            | (refine step_append_bids rfl _ _ rfl w2.heap.size v1 ([] ++ []) rfl ?_ _ [] rfl ?_ ?_ ?_ ?_
               · exact h1
               · exact .inl ⟨.inr ⟨_, _, rfl⟩, rfl⟩
               · exact Nat.le_of_ble_eq_true rfl
               · first | omega | (simp; done) | (simp; omega)
               intro v2 wz2 h2 g2
               have B2 : Below w2.heap.size w2 wz2 := Below.grown (by repeat (first | exact B2 | exact B1 | exact Below.refl _ _ | refine Below.drew ?_ | refine Below.alloc ?_ (by first | omega | (simp; done) | (simp; omega)) _)) g2 (by first | omega | (simp; done) | (simp; omega)) (fun k hk => (h1.block k hk).1)
               have z2 := B2.size))
          all_goals
            go_wp2
            go_meet
            case rel => exact ⟨h2, B2⟩
      · have HTK : Aside (BidsAt w2 (.slice (some ⟨lb, lo, none⟩) q cap) (bs.take q)) := BidsAt.take hll hl q (by rw [← HN.out]; exact hqn)
        have HD0 : Aside (BidsAt w2 (.slice (some ⟨lb, lo + q * 2, none⟩) (n - q) (cap - q)) (bs.drop q)) := by
          have := BidsAt.drop (cap := cap) hll hl q (by rw [← HN.out]; exact hqn)
          rw [← HN.out] at this
          exact this
        have hlt : (bs.take q).length ≤ 40 := by rw [List.length_take, ← HN.out]; omega
        have hld : (bs.drop q).length ≤ 40 := by rw [List.length_drop, ← HN.out]; omega
        clear hl hll HF HI HO
        by_cases hqc : q = cap
        · as_aux_lemma =>
          obtain rfl : n = q := by omega
          have HDR : Aside (BidsAt w2 (.slice (some ⟨lb, lo, none⟩) 0 0) (bs.drop n)) := .inl ⟨.inr ⟨_, _, rfl⟩, List.drop_eq_nil_of_le (by rw [← HN.out]; exact Nat.le_refl _)⟩
          subst hqc
          clear HN HD0
          go_region_held3 (fun _ => True) (exact trivial) (first
            | (refine step_append_bids rfl _ _ rfl w2.heap.size (.slice (some ⟨_, 0, none⟩) 0 0) [] rfl ?_ _ (bs.drop n) rfl ?_ ?_ ?_ ?_
               · exact OwnBids.at_ [] (by first | omega | (simp; done) | (simp; omega)) (by first | (simp only [heapDrew, heapAlloc, Array.getElem?_push]; simp; done) | (simp only [heapAlloc, Array.getElem?_push]; simp; done)) rfl rfl (by simp)
               · exact HDR.out.below (by repeat (first | exact B2 | exact B1 | exact Below.refl _ _ | refine Below.drew ?_ | refine Below.alloc ?_ (by first | omega | (simp; done) | (simp; omega)) _))
               · simp only [List.length_nil]; omega
               · first | omega | (simp; done) | (simp; omega)
               intro v1 wz1 h1 g1
               have B1 : Below w2.heap.size w2 wz1 := Below.grown (by repeat (first | exact B2 | exact B1 | exact Below.refl _ _ | refine Below.drew ?_ | refine Below.alloc ?_ (by first | omega | (simp; done) | (simp; omega)) _)) g1 (by first | omega | (simp; done) | (simp; omega)) (fun k hk => by simp [Value.ownBlock] at hk; omega)
               have z1 := B1.size)
            | (refine step_append_bids rfl _ _ rfl w2.heap.size v1 ([] ++ (bs.drop n)) rfl ?_ _ (bs.take n) rfl ?_ ?_ ?_ ?_
               · exact h1
               · exact HTK.out.below (by repeat (first | exact B2 | exact B1 | exact Below.refl _ _ | refine Below.drew ?_ | refine Below.alloc ?_ (by first | omega | (simp; done) | (simp; omega)) _))
               · simp only [List.length_append, List.length_nil]; omega
               · first | omega | (simp; done) | (simp; omega)
               intro v2 wz2 h2 g2
               have B2 : Below w2.heap.size w2 wz2 := Below.grown (by repeat (first | exact B2 | exact B1 | exact Below.refl _ _ | refine Below.drew ?_ | refine Below.alloc ?_ (by first | omega | (simp; done) | (simp; omega)) _)) g2 (by first | omega | (simp; done) | (simp; omega)) (fun k hk => (h1.block k hk).1)
               have z2 := B2.size))
          all_goals
            go_wp2
            go_meet
            case rel => exact ⟨h2, B2⟩
        · as_aux_lemma =>
          have HDR := HD0
          have hqz : (q : Int) ≤ (n : Int) := by omega
          have hqz1 : ¬ cap = q := fun e => hqc e.symm
          have hqz2 : (q : Int) ≤ (cap : Int) := by omega
          clear HN HD0
          go_region_held3 (fun _ => True) (exact trivial) (first
            | (refine step_append_bids rfl _ _ rfl w2.heap.size (.slice (some ⟨_, 0, none⟩) 0 0) [] rfl ?_ _ (bs.drop q) rfl ?_ ?_ ?_ ?_
               · exact OwnBids.at_ [] (by first | omega | (simp; done) | (simp; omega)) (by first | (simp only [heapDrew, heapAlloc, Array.getElem?_push]; simp; done) | (simp only [heapAlloc, Array.getElem?_push]; simp; done)) rfl rfl (by simp)
               · exact HDR.out.below (by repeat (first | exact B2 | exact B1 | exact Below.refl _ _ | refine Below.drew ?_ | refine Below.alloc ?_ (by first | omega | (simp; done) | (simp; omega)) _))
               · simp only [List.length_nil]; omega
               · first | omega | (simp; done) | (simp; omega)
               intro v1 wz1 h1 g1
               have B1 : Below w2.heap.size w2 wz1 := Below.grown (by repeat (first | exact B2 | exact B1 | exact Below.refl _ _ | refine Below.drew ?_ | refine Below.alloc ?_ (by first | omega | (simp; done) | (simp; omega)) _)) g1 (by first | omega | (simp; done) | (simp; omega)) (fun k hk => by simp [Value.ownBlock] at hk; omega)
               have z1 := B1.size)
            | (refine step_append_bids rfl _ _ rfl w2.heap.size v1 ([] ++ (bs.drop q)) rfl ?_ _ (bs.take q) rfl ?_ ?_ ?_ ?_
               · exact h1
               · exact HTK.out.below (by repeat (first | exact B2 | exact B1 | exact Below.refl _ _ | refine Below.drew ?_ | refine Below.alloc ?_ (by first | omega | (simp; done) | (simp; omega)) _))
               · simp only [List.length_append, List.length_nil]; omega
               · first | omega | (simp; done) | (simp; omega)
               intro v2 wz2 h2 g2
               have B2 : Below w2.heap.size w2 wz2 := Below.grown (by repeat (first | exact B2 | exact B1 | exact Below.refl _ _ | refine Below.drew ?_ | refine Below.alloc ?_ (by first | omega | (simp; done) | (simp; omega)) _)) g2 (by first | omega | (simp; done) | (simp; omega)) (fun k hk => (h1.block k hk).1)
               have z2 := B2.size))
          all_goals
            go_wp2
            go_meet
            case rel => exact ⟨h2, B2⟩
    case rest =>
    as_aux_lemma =>
    obtain ⟨HT, HB6⟩ := hcut
    obtain ⟨v11, rfl⟩ : ∃ x, x = u11 := ⟨_, rfl⟩
    have HI1 := aside (HI.out.on HB6.out)
    have HTB := aside HT.out.bids
    clear HT HB6 HI HF hqn hncap
    obtain ⟨wb, rfl⟩ : ∃ x, x = wc := ⟨_, rfl⟩
    have hns := fun a b c W => neqOut_same a b c W
    have HNS := aside hns
    clear hns
    go_wp2
    go_loopg [12, 13] n (fun g v12 v13 wr => ∃ k : Nat, v13 = .int .i64 ((k : Int) - 1) ∧ k ≤ n ∧ k ≤ g ∧ Aside (OwnBids wb.heap.size wr v12 (backTo bs k)) ∧ Aside (Below wb.heap.size wb wr))
    case atStart => exact ⟨n, rfl, by omega, by omega, by rw [HN.out, backTo_all]; exact World.ownsRow_nil _ _ _ _, Below.refl _ _⟩
    case round =>
      obtain ⟨k, rfl, hk, hg, HOB, HWB⟩ := hrel
      have hsz := HWB.out.size
      cases k with
      | succ m =>
        as_aux_lemma =>
        rw [show (((m + 1 : Nat) : Int) - 1) = (m : Int) from by omega]
        have hm0 : (0 : Int) ≤ (m : Int) := by omega
        have hmz : (m : Int) < (n : Int) := by omega
        have hb := (HI1.out.on (HWB.out)).bids
        obtain ⟨lb, lo, ha, hbc⟩ := hb.cells (by rw [← HN.out]; omega)
        subst ha
        have q1 := (hbc m (by rw [← HN.out]; omega)).1
        have q2 := (hbc m (by rw [← HN.out]; omega)).2
        obtain ⟨bk, hbk⟩ : ∃ q, q = bs[m]!.2 := ⟨_, rfl⟩
        obtain ⟨ck, hck⟩ : ∃ q, q = bs[m]!.1 := ⟨_, rfl⟩
        rw [← hck] at q1
        rw [← hbk] at q2
        have HRT : Aside (backTo bs m = backTo bs (m + 1) ++ [(ck, bk)]) := by
          have := backTo_step bs m (by rw [← HN.out]; omega)
          rw [hck, hbk]
          exact this
        have hlr := length_backTo bs (m + 1)
        have hown := HOB.out
        rw [← HN.out] at hlr
        clear hb hbc hck hbk HOB
        go_wp2_with (first
          | (at_builtin; refine wpList_append_bids rfl _ _ rfl wb.heap.size wb.heap.size _ (backTo bs (m + 1)) rfl (hown.alloc _) _ [(ck, bk)] rfl (OwnBids.lit _ _ [(ck, bk)] _ _ _ hsz (by simp) rfl rfl rfl) (by simp <;> omega) (by simp <;> omega) ?_)
          | fail)
        intro v' w1 hown' hgrow
        have HW1 : Aside (Below wb.heap.size wb w1) := (HWB.out.alloc hsz _).grown hgrow (by simp; omega) (fun k hk => (hown.block k hk).1)
        rw [← HRT.out] at hown'
        have HO1 := aside hown'
        clear hown hown' hgrow HWB q1 q2 HRT hlr
        go_wp2
        go_roundg m
        case measure => omega
        case rel => exact ⟨m, rfl, by omega, by omega, HO1, HW1⟩
      | zero =>
        as_aux_lemma =>
        rw [show (((0 : Nat) : Int) - 1) = -1 from rfl]
        obtain ⟨v12, rfl⟩ : ∃ x, x = u12 := ⟨_, rfl⟩
        have HOB1 : Aside (OwnBids wb.heap.size wr v12 bs.reverse) := HOB.out
        clear HOB hk hg
        obtain ⟨HOF⟩ : Nonempty (Aside (∀ v W, (v = v11 ∨ v = v12) → Below wr.heap.size wr W → Calls Try.prog 15 #[v, .int .u64 reserve] W fun e w' => e = .returned (.agg #[.int .i64 s, .int .i64 c, .int .u64 p]) ∧ Below W.heap.size W w')) := ⟨fun v W h hb => by
          rcases h with rfl | rfl
          · exact of_lit2 _ _ _ s c p _ ((HTB.out.below HWB.out).below hb) (by simp only [List.length_append, List.length_drop, List.length_take]; rw [← HN.out]; omega) (by rw [vickOf_turn]; exact HO.out)
          · exact of_lit2 _ _ _ s c p _ (HOB1.out.bids.below hb) (by rw [List.length_reverse, ← HN.out]; omega) (by rw [vickOf_back]; exact HO.out)⟩
        go_upto_region 12 with fail
        go_cut [67] (fun v wx => v = .bool false ∧ Aside (Below wr.heap.size wr wx))
        case first =>
          as_aux_lemma =>
          have HI2 := aside (HI1.out.on HWB.out)
          have hns := fun a b c W => HNS.out a b c W
          have hB0 : Aside (Below wr.heap.size wr wr.drew) := new_drew wr
          clear HI1 HTB HWB HOB1 HN HO HNS
          go_region_held3 (fun W => W.cell? ⟨B, 0, none⟩ = some (.int .i64 s) ∧ W.cell? ⟨B, 1, none⟩ = some (.int .i64 c) ∧ W.cell? ⟨B, 2, none⟩ = some (.int .u64 p) ∧ Aside (Below wr.heap.size wr W)) (exact ordS HI2.out (by assumption)) ((go_at_call 15; refine (HOF.out _ _ (by first | exact Or.inl rfl | exact Or.inr rfl) (Aside.out (by assumption))).mono ?_; rintro e w1 ⟨rfl, hb1⟩; have hB1 : Aside (Below wr.heap.size wr w1) := new_trans (Aside.out (by assumption)) hb1))
          all_goals
            go_wp2
            go_meet
            case rel => exact ⟨rfl, by assumption⟩
        case rest =>
        as_aux_lemma =>
        obtain ⟨rfl, HB12⟩ := hcut
        have HW3 : Aside (Below wb.heap.size wb wc) := HWB.out.trans (HB12.out.mono HWB.out.size)
        have HOB2 : Aside (OwnBids wb.heap.size wc v12 bs.reverse) := HOB1.out.below HB12.out
        clear HOB1 HB12 HOF HWB HTB
        go_upto_region 14 with fail
        go_cut [83] (fun v wx => v = .bool false ∧ Aside (Below wb.heap.size wb wx))
        case first =>
          as_aux_lemma =>
          have hns := fun a b c W => HNS.out a b c W
          by_cases hab : reserve < above
          · have hd : decide (reserve < above) = true := decide_eq_true hab
            have HAB := aside hab
            have hsz := HW3.out.size
            have hB0 : Aside (Below wb.heap.size wb wc.drew) := HW3.out.drew
            have hrl : bs.reverse.length ≤ 40 := by rw [List.length_reverse, ← HN.out]; omega
            have hown := HOB2.out
            have ez : IntKind.i64.wrap z = z := IntWalk.i64_in z (by omega)
            clear hab HNS
            go_region_held3 (fun W => W.cell? ⟨B, 0, none⟩ = some (.int .i64 s) ∧ W.cell? ⟨B, 1, none⟩ = some (.int .i64 c) ∧ W.cell? ⟨B, 2, none⟩ = some (.int .u64 p) ∧ Aside (Below wb.heap.size wb W)) (exact ordS HI1.out (by first | assumption | exact (HW3.out.alloc hsz _).drew | exact HW3.out.drew.alloc hsz _)) (first
              | (refine step_append_bids_w (by rfl) _ _ rfl wb.heap.size v12 bs.reverse rfl ?_ (.slice (some ⟨_, 0, none⟩) 1 1) [(z, above)] rfl ?_ ?_ ?_ ?_
                 · first | exact (hown.alloc _).drew | exact hown.drew.alloc _ | exact hown.alloc _ | exact hown
                 · refine OwnBids.bids (OwnBids.at_ (base := 0) [(z, above)] (Nat.zero_le _) ?_ rfl rfl (by simp)); (simp only [heapDrew, heapAlloc, Array.getElem?_push]; simp [cellsOf]; done)
                 · simp only [List.length_cons, List.length_nil]; omega
                 · first | omega | (simp; done) | (simp; omega)
                 intro v1 w1 h1 g1
                 have B1 : Aside (Below wb.heap.size wb w1) := Below.grown (by first | exact (HW3.out.alloc hsz _).drew | exact HW3.out.drew.alloc hsz _) g1 (by first | omega | (simp; done) | (simp; omega)) (fun k hk => (hown.block k hk).1))
              | (go_at_call 15; refine (of_lit2 _ v1 _ s c p _ h1.bids (by simp only [List.length_append, List.length_cons, List.length_nil]; omega) (by rw [vickOf_above _ _ _ _ HAB.out, vickOf_back]; exact HO.out)).mono ?_; rintro e w2 ⟨rfl, hb2⟩; have B2 : Aside (Below wb.heap.size wb w2) := B1.out.trans (hb2.mono B1.out.size)))
            all_goals
              go_wp2
              go_meet
              case rel => exact ⟨rfl, by assumption⟩
          · have hd : decide (reserve < above) = false := decide_eq_false hab
            clear HNS hns
            go_quiet (fail)
            go_wp2
            go_meet
            case rel => exact ⟨rfl, below_drewN HW3.out _⟩
        case rest =>
        as_aux_lemma =>
        obtain ⟨rfl, HW4⟩ := hcut
        have HI2 := aside (HI1.out.on HW4.out)
        clear HI1 HW3 HOB2 HO HNS HW4
        have hlr := length_rankOf bs
        rw [← HN.out] at hlr
        have HLR := aside hlr
        clear hlr
        go_wp2_with fail
        refine (rank_any bs _ _ HI2.out.bids (by rw [← HN.out]; omega)).mono ?_
        rintro e w5 ⟨v5, rfl, ⟨b5, rfl, hb51, hb52, hc5⟩, hb5⟩
        rw [HLR.out] at hc5 ⊢
        have HI3 := aside (HI2.out.on hb5)
        have HC5 : Aside (∀ q, q < n → w5.cell? ⟨b5, q, none⟩ = some (.int .i64 ((rankOf bs)[q]! : Int))) := fun q hq => (hc5 q hq).1
        have hnn : ((n : Int) != (n : Int)) = false := by simp
        have hmk := fun W => make_bools n W (by omega)
        clear hc5 hb5 HI2 hb51
        go_upto_region 20 with fail
        clear hmk hnn
        obtain ⟨w6, hw6⟩ : ∃ w6, w6 = w5.alloc (.cells (falseRow n) 4) := ⟨_, rfl⟩
        obtain ⟨D, hD⟩ : ∃ D, D = w5.heap.size := ⟨_, rfl⟩
        have hDl : D < w6.heap.size := by rw [hw6, hD]; simp
        have HI4 : Aside (OrdI w B s c p bs (.slice a n cap) w6) := by rw [hw6]; exact HI3.out.on (new_alloc _ _)
        have HC6 : Aside (∀ q, q < n → w6.cell? ⟨b5, q, none⟩ = some (.int .i64 ((rankOf bs)[q]! : Int))) := by rw [hw6]; exact st_cells (fun q => q < n) (fun q => ⟨b5, q, none⟩) (fun q => .int .i64 ((rankOf bs)[q]! : Int)) _ _ HC5.out (new_alloc _ _)
        have HS0 : Aside (SeenInv bs n D 0 w6) := by rw [hw6, hD]; exact SeenInv.start bs n w5
        have hb5D : b5 ≠ D := by omega
        have HBD : Aside (Below w.heap.size w w5) := HI3.out.new
        have HB6 : Aside (Below w5.heap.size w5 w6) := by rw [hw6]; exact new_alloc _ _
        rw [← hw6, ← hD]
        have HD := aside hD
        clear hw6 hD HC5
        go_wp2
        go_loopg [16] n (fun g v16 wr => ∃ i : Nat, v16 = .int .i64 i ∧ i ≤ n ∧ n - i ≤ g ∧ Aside (SeenInv bs n D i wr) ∧ Aside (Below D w5 wr))
        case atStart => exact ⟨0, rfl, by omega, by omega, HS0, by rw [HD.out]; exact HB6.out⟩
        case round =>
          obtain ⟨i, rfl, hi, hg, HS, HBW⟩ := hrel
          by_cases hlt : i < n
          · as_aux_lemma =>
            have hltz : (i : Int) < (n : Int) := by omega
            obtain ⟨x, hx⟩ : ∃ x, x = (rankOf bs)[i]! := ⟨_, rfl⟩
            have HX := aside hx
            have hxn : x < n := by rw [hx, HN.out]; exact rank_lt bs (by rw [← HN.out]; exact hlt)
            have hxz : (x : Int) < (n : Int) := by omega
            have HB7 : Aside (Below D w5 wr) := HBW
            have HC7 : Aside (∀ q, q < n → wr.cell? ⟨b5, q, none⟩ = some (.int .i64 ((rankOf bs)[q]! : Int))) := fun q hq => by
              rw [HBW.out.cell (p := ⟨b5, q, none⟩) (by rw [HD.out]; exact hb52)]
              have := HC6.out q hq
              rw [HB6.out.cell (p := ⟨b5, q, none⟩) hb52] at this
              exact this
            have HBD7 : Aside (Below w5.heap.size w5 wr) := by have := HBW.out; rw [HD.out] at this; exact this
            have HI7 := aside (HI3.out.on HBD7.out)
            obtain ⟨lb, lo, ha, hbc⟩ := HI7.out.bids.cells (by rw [← HN.out]; omega)
            subst ha
            have hlb : lb < w5.heap.size := by
              obtain ⟨lb', lo', h1, h2⟩ := HI3.out.bids.cells (by rw [← HN.out]; omega)
              injection h1 with h1
              injection h1 with h1
              rw [h1]
              exact cell_lt (h2 i (by rw [← HN.out]; exact hlt)).1
            have HBC := aside hbc
            have r1 := HC7.out i hlt
            rw [← hx] at r1
            have s1 := (HS.out x hxn).1
            have s2 := (HS.out x hxn).2
            have hsf : seenTo bs i x = false := by rw [hx]; exact seenTo_fresh bs (by rw [← HN.out]; exact hlt)
            rw [hsf] at s1
            clear hx hsf hbc HI4 HC6 HS0 HB6 HI3 HBW HB7
            go_upto_region 26 with fail
            obtain ⟨w7, hw7⟩ : ∃ w7, w7 = wr.setCell ⟨D, x, none⟩ (.bool true) := ⟨_, rfl⟩
            have HS7 : Aside (SeenInv bs n D (i + 1) w7) := by rw [hw7]; exact HS.out.step HN.out hlt x HX.out
            have HB8 : Aside (Below D w5 w7) := by
              rw [hw7]
              have : Below D w5 wr := by rw [HD.out]; exact HBD7.out
              exact this.setCell (p := ⟨D, x, none⟩) (Nat.le_refl _) _
            have HC8 : Aside (∀ q, q < n → w7.cell? ⟨b5, q, none⟩ = some (.int .i64 ((rankOf bs)[q]! : Int))) := fun q hq => by
              rw [hw7, World.cell?_setCell_other _ _ _ _ (by intro e'; simp only [Addr.mk.injEq] at e'; omega)]
              exact HC7.out q hq
            have HBC8 : Aside (BidCells w7 lb lo bs) := fun j hj => by
              rw [hw7, World.cell?_setCell_other _ _ _ _ (by intro e'; simp only [Addr.mk.injEq] at e'; have := HD.out; omega), World.cell?_setCell_other _ _ _ _ (by intro e'; simp only [Addr.mk.injEq] at e'; have := HD.out; omega)]
              exact HBC.out j hj
            rw [← hw7]
            clear hw7 HS HC7 HBD7 HI7 HBC r1 s1 s2
            cases i with
            | zero =>
              have hd : decide ((0 : Int) < 0) = false := by decide
              go_quiet (fail)
              have HS9 : Aside (SeenInv bs n D (0 + 1) (w7.drewN nq)) := HS7.out
              have HB9 : Aside (Below D w5 (w7.drewN nq)) := below_drewN HB8.out nq
              clear HS7 HB8 HC8 HBC8
              generalize w7.drewN nq = w8 at HS9 HB9 ⊢
              go_wp2
              go_roundg (n - (0 + 1))
              case measure => omega
              case rel => exact ⟨0 + 1, rfl, by omega, by omega, HS9, HB9⟩
            | succ m =>
              obtain ⟨y, hy⟩ : ∃ y, y = (rankOf bs)[m]! := ⟨_, rfl⟩
              have hyn : y < n := by rw [hy, HN.out]; exact rank_lt bs (by rw [← HN.out]; omega)
              have hyz : (y : Int) < (n : Int) := by omega
              have hah : Vk.ahead bs y x := by
                rw [hy, HX.out]
                exact rank_get bs (by omega) (by rw [← HN.out]; exact hlt)
              have r1 := HC8.out (m + 1) hlt
              have r2 := HC8.out m (by omega)
              rw [← HX.out] at r1
              rw [← hy] at r2
              have c1 := (HBC8.out x (by rw [← HN.out]; exact hxn)).1
              have c2 := (HBC8.out x (by rw [← HN.out]; exact hxn)).2
              have d1 := (HBC8.out y (by rw [← HN.out]; exact hyn)).1
              have d2 := (HBC8.out y (by rw [← HN.out]; exact hyn)).2
              unfold Vk.ahead at hah
              obtain ⟨bx, hbx⟩ : ∃ q, q = bs[x]!.2 := ⟨_, rfl⟩
              obtain ⟨by', hby⟩ : ∃ q, q = bs[y]!.2 := ⟨_, rfl⟩
              obtain ⟨cx, hcx⟩ : ∃ q, q = bs[x]!.1 := ⟨_, rfl⟩
              obtain ⟨cy, hcy⟩ : ∃ q, q = bs[y]!.1 := ⟨_, rfl⟩
              rw [← hbx, ← hby, ← hcx, ← hcy] at hah
              rw [← hcx] at c1
              rw [← hbx] at c2
              rw [← hcy] at d1
              rw [← hby] at d2
              have hd1 : decide (bx < by') = false := decide_eq_false (by omega)
              have em : IntKind.i64.wrap (m : Int) = (m : Int) := IntWalk.i64_in _ (by omega)
              have em1 : IntKind.i64.wrap ((m : Int) + 1) = (m : Int) + 1 := IntWalk.i64_in _ (by omega)
              have hm0 : (0 : Int) ≤ (m : Int) := by omega
              have hmz : (m : Int) < (n : Int) := by omega
              have hmz1 : (m : Int) + 1 < (n : Int) := by omega
              have hdm : decide ((0 : Int) < (m : Int) + 1) = true := decide_eq_true (by omega)
              by_cases heq : bx = by'
              · have he : (bx == by') = true := by rw [beq_iff_eq]; exact heq
                have hd2 : decide (cx < cy) = false := decide_eq_false (by omega)
                clear hah hbx hby hcx hcy hy heq
                go_quiet (fail)
                have HS9 : Aside (SeenInv bs n D (m + 1 + 1) (w7.drewN nq)) := HS7.out
                have HB9 : Aside (Below D w5 (w7.drewN nq)) := below_drewN HB8.out nq
                clear HS7 HB8 HC8 HBC8 r1 r2 c1 c2 d1 d2 em em1
                generalize w7.drewN nq = w8 at HS9 HB9 ⊢
                go_wp2
                go_roundg (n - (m + 1 + 1))
                case measure => omega
                case rel => exact ⟨m + 1 + 1, by go_num, by omega, by omega, HS9, HB9⟩
              · have he : (bx == by') = false := by rw [beq_eq_false_iff_ne]; exact heq
                clear hah hbx hby hcx hcy hy heq
                go_quiet (fail)
                have HS9 : Aside (SeenInv bs n D (m + 1 + 1) (w7.drewN nq)) := HS7.out
                have HB9 : Aside (Below D w5 (w7.drewN nq)) := below_drewN HB8.out nq
                clear HS7 HB8 HC8 HBC8 r1 r2 c1 c2 d1 d2 em em1
                generalize w7.drewN nq = w8 at HS9 HB9 ⊢
                go_wp2
                go_roundg (n - (m + 1 + 1))
                case measure => omega
                case rel => exact ⟨m + 1 + 1, by go_num, by omega, by omega, HS9, HB9⟩
          · as_aux_lemma =>
            have hltz : ¬ (i : Int) < (n : Int) := by omega
            clear HI4 HC6 HS0 HB6 HS
            go_wp2
            go_ret
            exact ⟨rfl, HBD.out.trans ((HD.out ▸ HBW.out : Below w5.heap.size w5 wr).mono HBD.out.size)⟩

theorem order_row (bs : List Bd) (v : Value) (r z x : Int) (w : World) (hv : BidsAt w v bs) (hcap : ∀ a n c, v = .slice a n c → n ≤ c) (hn : bs.length ≤ 9223372036854775807) (_ : (Lit.int .u64 r).wf = true) (hz : (Lit.int .u8 z).wf = true) (_ : (Lit.int .u64 x).wf = true) :
    Calls Try.prog 7 #[v, .int .u64 r, .int .u8 z, .int .u64 x] w fun e w' => e = .returned (.bool true) ∧ Below w.heap.size w w' := order_law bs v r z x w hv hcap hn (wf_u8 hz)

end Go.Proofs.Ytdgedckfaefohaa
