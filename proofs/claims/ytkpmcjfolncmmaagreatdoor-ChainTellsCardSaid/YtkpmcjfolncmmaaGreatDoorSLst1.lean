/- chain's list over ints, walked. -/
import Derived.Test.YtkpmcjfolncmmaaGreatDoorSOct6
import Derived.Test.YtkpmcjfolncmmaaGreatDoorSOwnG
set_option linter.all false
namespace Go.Proofs.YtkpmcjfolncmmaaGreatDoor
open Go.RowKit
theorem Tryz.infoInt : (Tryz.prog.info? 3).map (fun i => (i.zero, i.size, i.bytes)) = some (some (.int .i64 0), 1, 8) := by kernel_rfl
def cntR (t : ByteArray) (p : Int) : Nat := (getV t p 1).toNat
def intsTo (t : ByteArray) (p : Int) (k : Nat) : List Int := (List.range k).map fun (i : Nat) => getV t (p + 1 + i) 1
def intsOk (t : ByteArray) (p : Int) : Prop := 1 ≤ t.size - p ∧ (cntR t p : Int) ≤ t.size - (p + 1)
instance (t : ByteArray) (p : Int) : Decidable (intsOk t p) := by unfold intsOk; infer_instance
def IntsPost (b g : Nat) (t : ByteArray) (p : Int) (w : World) (e : Ending) (w' : World) : Prop :=
  if intsOk t p then ∃ v, e = .returned v ∧ w'.ownsRow w.heap.size 3 1 v (cntR t p) ((intsTo t p (cntR t p)).map (Value.int .i64)) ∧ Keeps (· ≠ b) w w' ∧ ROpen b g t (p + 1 + cntR t p) false w'
  else e = .panicked gaveUp ∧ Keeps (· ≠ b) w w'
theorem intsTo_succ (t : ByteArray) (p : Int) (k : Nat) : (intsTo t p (k + 1)).map (Value.int .i64) = (intsTo t p k).map (Value.int .i64) ++ [.int .i64 (getV t (p + 1 + k) 1)] := by
  rw [intsTo, List.range_succ, List.map_append, List.map_append]
  rfl
set_option maxHeartbeats 2000000 in
set_option maxRecDepth 100000 in
theorem ints_any (b g : Nat) (t : ByteArray) (hts : t.size ≤ 9223372036854775807) (p : Int) (hp : 0 ≤ p ∧ p ≤ t.size) (w : World) (h : ROpen b g t p false w) :
    Calls Tryz.prog 55 #[.agg #[.pointer (some ⟨b, 0, none⟩)], .func (.func 28) #[.agg #[.pointer (some ⟨b, 0, none⟩)]] #[]] w (IntsPost b g t p w) := by
  have H := aside h
  have hbl := h.bound.1
  have HTS := aside hts
  have HP := aside hp
  clear h hts hp
  go_enter Tryz.func55, Tryz.ntmps55
  go_wp2_with fail
  obtain ⟨wa, hwa⟩ : ∃ z, z = w.alloc (.cells #[.pointer (some ⟨b, 0, none⟩)] 75) := ⟨_, rfl⟩
  have HNa : Aside (Below w.heap.size w wa) := by rw [hwa]; exact new_alloc _ _
  rw [← hwa]
  clear hwa
  refine (csmall_any b g t HTS.out p HP.out wa (H.out.on HNa.out)).mono ?_
  intro e w1 hr
  by_cases hle : 1 ≤ t.size - p
  · rw [CNumPost, if_pos hle] at hr
    obtain ⟨rfl, hk, ho⟩ := hr
    have hbd := getV_bound t p 1 (by omega)
    obtain ⟨N, hN⟩ : ∃ N, N = cntR t p := ⟨_, rfl⟩
    have hgN : getV t p 1 = (N : Int) := by rw [hN, cntR]; omega
    have hN255 : N ≤ 255 := by have := hbd.2; rw [hgN] at this; simp at this; omega
    rw [hgN]
    have HLE := aside hle
    have HNN := aside hN
    have HK : Aside (Keeps (· ≠ b) w w1) := (keeps_of_new HNa.out _).trans hk
    have HO : Aside (ROpen b g t (p + 1 + ((0 : Nat) : Int)) false w1) := by rw [Int.natCast_zero, Int.add_zero]; exact ho
    have HOW : Aside (w1.ownsRow w.heap.size 3 1 (.slice none 0 0) 0 ((intsTo t p 0).map (Value.int .i64))) := World.ownsRow_nil _ _ _ _
    clear hle hk ho hbd hN hgN
    go_wp2_with fail
    go_loopg [4, 5] N (fun gk v4 v5 wr => ∃ (k : Nat) (y : Value), y = v4 ∧ k ≤ N ∧ v5 = .int .i64 ((N : Int) - k) ∧ N - k ≤ gk ∧ Aside (wr.ownsRow w.heap.size 3 1 y k ((intsTo t p k).map (Value.int .i64))) ∧ Aside (Keeps (· ≠ b) w wr) ∧ Aside (ROpen b g t (p + 1 + k) false wr) ∧ Aside ((k : Int) ≤ t.size - (p + 1)))
    case atStart => exact ⟨0, _, rfl, by omega, by simp, by omega, HOW, HK, HO, by rw [Aside]; have := HLE.out; omega⟩
    case round =>
      clear HOW HK HO
      obtain ⟨k, y, rfl, hk, rfl, hgk, HOW, HK, HO, HB⟩ := hrel
      by_cases hlt : k < N
      · have hki : (0 : Int) < (N : Int) - k := by omega
        go_wp2_with fail
        have hpk : 0 ≤ p + 1 + k ∧ p + 1 + k ≤ t.size := by have := HP.out; have := HB.out; omega
        refine (csmall_any b g t HTS.out (p + 1 + k) hpk wr HO.out).mono ?_
        intro e w2 hr
        by_cases hle : 1 ≤ t.size - (p + 1 + k)
        · rw [CNumPost, if_pos hle] at hr
          obtain ⟨rfl, hk2, ho2⟩ := hr
          obtain ⟨x, hx⟩ : ∃ x, x = getV t (p + 1 + k) 1 := ⟨_, rfl⟩
          have HX := aside hx
          rw [← hx]
          have HO2 : Aside (ROpen b g t (p + 1 + ((k + 1 : Nat) : Int)) false w2) := by
            rw [show (p + 1 + ((k + 1 : Nat) : Int)) = p + 1 + k + 1 by omega]; exact ho2
          have HK2 := aside (HK.out.trans hk2)
          have HOW2 : Aside (w2.ownsRow w.heap.size 3 1 y k ((intsTo t p k).map (Value.int .i64))) := ownsRow_keeps HOW.out hk2 (fun j hj e => by omega)
          have HB2 : Aside (((k + 1 : Nat) : Int) ≤ t.size - (p + 1)) := by rw [Aside]; omega
          have hs2 : w.heap.size ≤ w2.heap.size := HK2.out.size
          have hsub : IntKind.i64.wrap ((N : Int) - k - 1) = (N : Int) - ((k + 1 : Nat) : Int) := by
            rw [show (N : Int) - k - 1 = (N : Int) - ((k + 1 : Nat) : Int) by omega]
            exact IntWalk.i64_in _ (by omega)
          clear hx hk2 ho2 hle hpk HO HK HOW HB
          go_wp2_with (first
            | (at_builtin; refine wpList_append_one rfl _ _ 31 3 rfl (.int .i64 0) 1 8 Tryz.underlying31 Tryz.infoInt rfl (by decide) w.heap.size _ k _ rfl (World.ownsRow.alloc HOW2.out _) w2.heap.size [.int .i64 x] rfl (by simp [Value.oneCell']) rfl ?c1 ?c2 ?c3 ?c4 ?_)
            | fail)
          case c1 => intro j u hu; rw [cell_new]; match j, hu with | 0, hu => simpa using hu | j + 1, hu => simp at hu
          case c2 => unfold maxLen; omega
          case c3 => omega
          case c4 => simp; omega
          intro v' w3 hown' hgrow
          have HOW3 : Aside (w3.ownsRow w.heap.size 3 1 v' (k + 1) ((intsTo t p (k + 1)).map (Value.int .i64))) := by
            rw [Aside, intsTo_succ, ← HX.out]; exact hown'
          have hk3 : Keeps (· < w.heap.size) w2 w3 := (keeps_of_new (new_alloc _ _) _).trans (keeps_grown hgrow _ (fun j hj h => by have := ownBlock_ge HOW2.out j hj; omega))
          have HK3 := aside (keeps_behind HK2.out hk3)
          have HO3 := aside (HO2.out.keeps hk3 H.out.bound.1 H.out.bound.2)
          clear hown' hgrow hk3 HO2 HK2 HOW2
          go_wp2_with fail
          go_roundg (N - (k + 1))
          case measure => omega
          case rel => exact ⟨k + 1, _, rfl, by omega, rfl, by omega, HOW3, HK3, HO3, HB2⟩
        · rw [CNumPost, if_neg hle] at hr
          obtain ⟨rfl, hk2⟩ := hr
          have HE : Aside (IntsPost b g t p w (.panicked gaveUp) w2) := by
            rw [Aside, IntsPost, if_neg (fun h => by have := h.2; rw [← HNN.out] at this; omega)]
            exact ⟨rfl, HK.out.trans hk2⟩
          clear hle hk2 hpk
          go_wp2_with fail
          exact ⟨rfl, HE.out⟩
      · have hki : ¬ (0 : Int) < (N : Int) - k := by omega
        have hkN : k = N := by omega
        have HE : Aside (IntsPost b g t p w (.returned y) wr) := by
          have hok : intsOk t p := ⟨HLE.out, by rw [← HNN.out, ← hkN]; exact HB.out⟩
          rw [Aside, IntsPost, if_pos hok, ← HNN.out, ← hkN]
          exact ⟨_, rfl, HOW.out, HK.out, HO.out⟩
        clear hkN hlt
        go_wp2_with fail
        go_ret
        exact HE.out
  · rw [CNumPost, if_neg hle] at hr
    obtain ⟨rfl, hk⟩ := hr
    have HP : Aside (IntsPost b g t p w (.panicked gaveUp) w1) := by
      rw [Aside, IntsPost, if_neg (fun h => hle h.1)]
      exact ⟨rfl, (keeps_of_new HNa.out _).trans hk⟩
    clear hle hk
    go_wp2_with fail
    exact ⟨rfl, HP.out⟩
end Go.Proofs.YtkpmcjfolncmmaaGreatDoor
namespace Go.Proofs.YtkpmcjfolncmmaaGreatDoor
open Go.RowKit
theorem Tryz.infoLot : (Tryz.prog.info? 68).map (fun i => (i.zero, i.size, i.bytes)) = some (some (.agg #[.int .i64 0, .int .i64 0]), 2, 16) := by kernel_rfl
def LotPost (b g : Nat) (t : ByteArray) (p : Int) (w : World) (e : Ending) (w' : World) : Prop :=
  if 5 ≤ t.size - p then e = .returned (.agg #[.int .i64 (getV t p 1), .int .i64 (getV t (p + 1) 4)]) ∧ Keeps (· ≠ b) w w' ∧ ROpen b g t (p + 5) false w'
  else e = .panicked gaveUp ∧ Keeps (· ≠ b) w w'
set_option maxHeartbeats 2000000 in
set_option maxRecDepth 100000 in
theorem lot_any (r b g : Nat) (t : ByteArray) (hts : t.size ≤ 9223372036854775807) (p : Int) (hp : 0 ≤ p ∧ p ≤ t.size) (w : World) (h : ROpen b g t p false w) (hr : w.cell? ⟨r, 0, none⟩ = some (.pointer (some ⟨b, 0, none⟩))) (hrb : r ≠ b) :
    Calls Tryz.prog 54 #[.pointer (some ⟨r, 0, none⟩)] w (LotPost b g t p w) := by
  have H := aside h
  have HR := aside hr
  have hrl := cell_lt hr
  clear h
  go_enter Tryz.func54, Tryz.ntmps54
  go_wp2_with fail
  obtain ⟨L, hL⟩ : ∃ x, x = w.heap.size := ⟨_, rfl⟩
  obtain ⟨wa, hwa⟩ : ∃ z, z = w.alloc (.cells #[.int .i64 0, .int .i64 0] 68) := ⟨_, rfl⟩
  have HNa : Aside (Below w.heap.size w wa) := by rw [hwa]; exact new_alloc _ _
  have HLa : Aside (wa.heap[L]? = some (.cells #[.int .i64 0, .int .i64 0] 68 (0, 0))) := by rw [hwa, hL]; exact heap_new _ _
  have HLw := aside hL
  rw [← hwa, ← hL]
  clear hwa hL hr
  refine (csmall_any b g t hts p hp wa (H.out.on HNa.out)).mono ?_
  intro e w1 hq
  have hbl := H.out.bound.1
  have hLb : L ≠ b := by have := HLw.out; omega
  by_cases hle : 1 ≤ t.size - p
  · rw [CNumPost, if_pos hle] at hq
    obtain ⟨rfl, hk, ho⟩ := hq
    have HK : Aside (Keeps (· ≠ b) w w1) := (keeps_of_new HNa.out _).trans hk
    have HO := aside ho
    have HR1 : Aside (w1.cell? ⟨r, 0, none⟩ = some (.pointer (some ⟨b, 0, none⟩))) := (World.cell?_of_block (w := w) (a := ⟨r, 0, none⟩) (HK.out.block r hrl hrb)).trans HR.out
    have HL1 : Aside (w1.heap[L]? = some (.cells #[.int .i64 0, .int .i64 0] 68 (0, 0))) := (hk.block L (Array.getElem?_eq_some_iff.1 HLa.out).1 hLb).trans HLa.out
    obtain ⟨x, hx⟩ : ∃ x, x = getV t p 1 := ⟨_, rfl⟩
    have HX := aside hx
    rw [← hx]
    have c1 := HR1.out
    clear hk ho hx
    go_wp2_with fail
    clear c1
    have hp1 : 0 ≤ p + 1 ∧ p + 1 ≤ t.size := by omega
    refine (cnum_any b g t hts (p + 1) 4 hp1 (by omega) w1 HO.out).mono ?_
    intro e w2 hq
    by_cases hle2 : 4 ≤ t.size - (p + 1)
    · rw [CNumPost, if_pos hle2] at hq
      obtain ⟨rfl, hk, ho⟩ := hq
      have HK2 := aside (HK.out.trans hk)
      have HL2 : Aside (w2.heap[L]? = some (.cells #[.int .i64 0, .int .i64 0] 68 (0, 0))) := (hk.block L (Array.getElem?_eq_some_iff.1 HL1.out).1 hLb).trans HL1.out
      have hbd := getV_bound t (p + 1) 4 (by omega)
      have HE : Aside (∀ w3, Keeps (· ≠ b) w w3 → ROpen b g t (p + 5) false w3 → LotPost b g t p w (.returned (.agg #[.int .i64 (getV t p 1), .int .i64 (getV t (p + 1) 4)])) w3) := by
        intro w3 h3 h4
        rw [LotPost, if_pos (by omega)]
        exact ⟨rfl, h3, h4⟩
      obtain ⟨v, hv⟩ : ∃ v, v = getV t (p + 1) 4 := ⟨_, rfl⟩
      have HV := aside hv
      rw [← hv] at hbd ⊢
      have hv0 : 0 ≤ v := hbd.1
      have hv1 : v ≤ 4294967295 := by have := hbd.2; simp at this; omega
      rw [show p + 1 + 4 = p + 5 by omega] at ho
      have HO2 := aside ho
      clear hk ho hbd hv hle hle2
      have c0 : w2.cell? ⟨L, 0, none⟩ = some (.int .i64 0) := by unfold World.cell?; simp only [HL2.out]; rfl
      have c1 : w2.cell? ⟨L, 1, none⟩ = some (.int .i64 0) := by unfold World.cell?; simp only [HL2.out]; rfl
      have f0 : w2.frozen? ⟨L, 0, none⟩ = false := by unfold World.frozen?; simp only [HL2.out]; rfl
      have f1 : w2.frozen? ⟨L, 1, none⟩ = false := by unfold World.frozen?; simp only [HL2.out]; rfl
      go_wp2_with fail
      have hh := whole_set (whole_set HL2.out 0 (.int .i64 x)) 1 (.int .i64 v)
      refine bodyPost_ret (results_cell_row rfl _ _ L 68 #[.int .i64 x, .int .i64 v] (0, 0) _ rfl hh Tryz.underlying68 rfl (by kernel_rfl)) rfl ?_
      rw [HX.out, HV.out]
      exact HE.out _ (keeps_behind HK2.out ((Keeps.setCell (Keeps.setCell (Keeps.refl _ w2) (p := ⟨L, 0, none⟩) (.inr (by have := HLw.out; simp only; omega)) _) (p := ⟨L, 1, none⟩) (.inr (by have := HLw.out; simp only; omega)) _))) (HO2.out.keeps (B := w.heap.size) ((Keeps.setCell (Keeps.setCell (Keeps.refl _ w2) (p := ⟨L, 0, none⟩) (.inr (by have := HLw.out; simp only; omega)) _) (p := ⟨L, 1, none⟩) (.inr (by have := HLw.out; simp only; omega)) _)) hbl H.out.bound.2)
    · rw [CNumPost, if_neg hle2] at hq
      obtain ⟨rfl, hk⟩ := hq
      have HE : Aside (LotPost b g t p w (.panicked gaveUp) w2) := by
        rw [Aside, LotPost, if_neg (by omega)]
        exact ⟨rfl, HK.out.trans hk⟩
      clear hk hle hle2
      go_wp2_with fail
      exact ⟨rfl, HE.out⟩
  · rw [CNumPost, if_neg hle] at hq
    obtain ⟨rfl, hk⟩ := hq
    have HE : Aside (LotPost b g t p w (.panicked gaveUp) w1) := by
      rw [Aside, LotPost, if_neg (by omega)]
      exact ⟨rfl, (keeps_of_new HNa.out _).trans hk⟩
    clear hk hle
    go_wp2_with fail
    exact ⟨rfl, HE.out⟩
def lotsTo (t : ByteArray) (p : Int) (k : Nat) : List (Int × Int) := (List.range k).map fun (i : Nat) => (getV t (p + 1 + 5 * i) 1, getV t (p + 1 + 5 * i + 1) 4)
def lotCells (l : List (Int × Int)) : List Value := l.flatMap fun x => [.int .i64 x.1, .int .i64 x.2]
def lotsOk (t : ByteArray) (p : Int) : Prop := 1 ≤ t.size - p ∧ 5 * (cntR t p : Int) ≤ t.size - (p + 1)
instance (t : ByteArray) (p : Int) : Decidable (lotsOk t p) := by unfold lotsOk; infer_instance
def LotsPost (b g : Nat) (t : ByteArray) (p : Int) (w : World) (e : Ending) (w' : World) : Prop :=
  if lotsOk t p then ∃ v, e = .returned v ∧ w'.ownsRow w.heap.size 68 2 v (cntR t p) (lotCells (lotsTo t p (cntR t p))) ∧ Keeps (· ≠ b) w w' ∧ ROpen b g t (p + 1 + 5 * cntR t p) false w'
  else e = .panicked gaveUp ∧ Keeps (· ≠ b) w w'
theorem lotsTo_succ (t : ByteArray) (p : Int) (k : Nat) : lotCells (lotsTo t p (k + 1)) = lotCells (lotsTo t p k) ++ [.int .i64 (getV t (p + 1 + 5 * k) 1), .int .i64 (getV t (p + 1 + 5 * k + 1) 4)] := by
  rw [lotsTo, List.range_succ, List.map_append, lotCells, List.flatMap_append]
  rfl
set_option maxHeartbeats 2000000 in
set_option maxRecDepth 100000 in
theorem lots_any (r b g : Nat) (t : ByteArray) (hts : t.size ≤ 9223372036854775807) (p : Int) (hp : 0 ≤ p ∧ p ≤ t.size) (w : World) (h : ROpen b g t p false w) (hr : w.cell? ⟨r, 0, none⟩ = some (.pointer (some ⟨b, 0, none⟩))) (hrb : r ≠ b) :
    Calls Tryz.prog 53 #[.agg #[.pointer (some ⟨b, 0, none⟩)], .func (.func 54) #[] #[.pointer (some ⟨r, 0, none⟩)]] w (LotsPost b g t p w) := by
  have H := aside h
  have hbl := h.bound.1
  have hrl := cell_lt hr
  have HTS := aside hts
  have HP := aside hp
  have HR := aside hr
  clear h hts hp hr
  go_enter Tryz.func53, Tryz.ntmps53
  go_wp2_with fail
  obtain ⟨wa, hwa⟩ : ∃ z, z = w.alloc (.cells #[.pointer (some ⟨b, 0, none⟩)] 75) := ⟨_, rfl⟩
  have HNa : Aside (Below w.heap.size w wa) := by rw [hwa]; exact new_alloc _ _
  rw [← hwa]
  clear hwa
  refine (csmall_any b g t HTS.out p HP.out wa (H.out.on HNa.out)).mono ?_
  intro e w1 hr
  by_cases hle : 1 ≤ t.size - p
  · rw [CNumPost, if_pos hle] at hr
    obtain ⟨rfl, hk, ho⟩ := hr
    have hbd := getV_bound t p 1 (by omega)
    obtain ⟨N, hN⟩ : ∃ N, N = cntR t p := ⟨_, rfl⟩
    have hgN : getV t p 1 = (N : Int) := by rw [hN, cntR]; omega
    have hN255 : N ≤ 255 := by have := hbd.2; rw [hgN] at this; simp at this; omega
    rw [hgN]
    have HLE := aside hle
    have HNN := aside hN
    have HK : Aside (Keeps (· ≠ b) w w1) := (keeps_of_new HNa.out _).trans hk
    have HO : Aside (ROpen b g t (p + 1 + 5 * ((0 : Nat) : Int)) false w1) := by rw [Int.natCast_zero, Int.mul_zero, Int.add_zero]; exact ho
    have HOW : Aside (w1.ownsRow w.heap.size 68 2 (.slice none 0 0) 0 (lotCells (lotsTo t p 0))) := World.ownsRow_nil _ _ _ _
    clear hle hk ho hbd hN hgN
    go_wp2_with fail
    go_loopg [4, 5] N (fun gk v4 v5 wr => ∃ (k : Nat) (y : Value), y = v4 ∧ k ≤ N ∧ v5 = .int .i64 ((N : Int) - k) ∧ N - k ≤ gk ∧ Aside (wr.ownsRow w.heap.size 68 2 y k (lotCells (lotsTo t p k))) ∧ Aside (Keeps (· ≠ b) w wr) ∧ Aside (ROpen b g t (p + 1 + 5 * k) false wr) ∧ Aside (5 * (k : Int) ≤ t.size - (p + 1)))
    case atStart => exact ⟨0, _, rfl, by omega, by simp, by omega, HOW, HK, HO, by rw [Aside]; have := HLE.out; omega⟩
    case round =>
      clear HOW HK HO
      obtain ⟨k, y, rfl, hk, rfl, hgk, HOW, HK, HO, HB⟩ := hrel
      by_cases hlt : k < N
      · have hki : (0 : Int) < (N : Int) - k := by omega
        go_wp2_with fail
        have hpk : 0 ≤ p + 1 + 5 * k ∧ p + 1 + 5 * k ≤ t.size := by have := HP.out; have := HB.out; omega
        refine (lot_any r b g t HTS.out (p + 1 + 5 * k) hpk wr HO.out (cell_keeps HR.out HK.out hrb) hrb).mono ?_
        intro e w2 hr
        by_cases hle : 5 ≤ t.size - (p + 1 + 5 * k)
        · rw [LotPost, if_pos hle] at hr
          obtain ⟨rfl, hk2, ho2⟩ := hr
          obtain ⟨x, hx⟩ : ∃ x, x = getV t (p + 1 + 5 * k) 1 := ⟨_, rfl⟩
          obtain ⟨z, hz⟩ : ∃ z, z = getV t (p + 1 + 5 * k + 1) 4 := ⟨_, rfl⟩
          have HX := aside hx
          have HZ := aside hz
          rw [← hx, ← hz]
          have HO2 : Aside (ROpen b g t (p + 1 + 5 * ((k + 1 : Nat) : Int)) false w2) := by
            rw [show (p + 1 + 5 * ((k + 1 : Nat) : Int)) = p + 1 + 5 * k + 5 by omega]; exact ho2
          have HK2 := aside (HK.out.trans hk2)
          have HOW2 : Aside (w2.ownsRow w.heap.size 68 2 y k (lotCells (lotsTo t p k))) := ownsRow_keeps HOW.out hk2 (fun j hj e => by omega)
          have HB2 : Aside (5 * ((k + 1 : Nat) : Int) ≤ t.size - (p + 1)) := by rw [Aside]; omega
          have hs2 : w.heap.size ≤ w2.heap.size := HK2.out.size
          have hsub : IntKind.i64.wrap ((N : Int) - k - 1) = (N : Int) - ((k + 1 : Nat) : Int) := by
            rw [show (N : Int) - k - 1 = (N : Int) - ((k + 1 : Nat) : Int) by omega]
            exact IntWalk.i64_in _ (by omega)
          clear hx hz hk2 ho2 hle hpk HO HK HOW HB
          go_wp2_with (first
            | (at_builtin; refine wpList_append_one rfl _ _ 36 68 rfl (.agg #[.int .i64 0, .int .i64 0]) 2 16 Tryz.underlying36 Tryz.infoLot rfl (by decide) w.heap.size _ k _ rfl (World.ownsRow.alloc HOW2.out _) w2.heap.size [.int .i64 x, .int .i64 z] rfl (by simp [Value.oneCell']) rfl ?c1 ?c2 ?c3 ?c4 ?_)
            | fail)
          case c1 => intro j u hu; rw [cell_new]; match j, hu with | 0, hu => simpa using hu | 1, hu => simpa using hu | j + 2, hu => simp at hu
          case c2 => unfold maxLen; omega
          case c3 => omega
          case c4 => simp; omega
          intro v' w3 hown' hgrow
          have HOW3 : Aside (w3.ownsRow w.heap.size 68 2 v' (k + 1) (lotCells (lotsTo t p (k + 1)))) := by
            rw [Aside, lotsTo_succ, ← HX.out, ← HZ.out]; exact hown'
          have hk3 : Keeps (· < w.heap.size) w2 w3 := (keeps_of_new (new_alloc _ _) _).trans (keeps_grown hgrow _ (fun j hj h => by have := ownBlock_ge HOW2.out j hj; omega))
          have HK3 := aside (keeps_behind HK2.out hk3)
          have HO3 := aside (HO2.out.keeps hk3 H.out.bound.1 H.out.bound.2)
          clear hown' hgrow hk3 HO2 HK2 HOW2
          go_wp2_with fail
          go_roundg (N - (k + 1))
          case measure => omega
          case rel => exact ⟨k + 1, _, rfl, by omega, rfl, by omega, HOW3, HK3, HO3, HB2⟩
        · rw [LotPost, if_neg hle] at hr
          obtain ⟨rfl, hk2⟩ := hr
          have HE : Aside (LotsPost b g t p w (.panicked gaveUp) w2) := by
            rw [Aside, LotsPost, if_neg (fun h => by have := h.2; rw [← HNN.out] at this; omega)]
            exact ⟨rfl, HK.out.trans hk2⟩
          clear hle hk2 hpk
          go_wp2_with fail
          exact ⟨rfl, HE.out⟩
      · have hki : ¬ (0 : Int) < (N : Int) - k := by omega
        have hkN : k = N := by omega
        have HE : Aside (LotsPost b g t p w (.returned y) wr) := by
          have hok : lotsOk t p := ⟨HLE.out, by rw [← HNN.out, ← hkN]; exact HB.out⟩
          rw [Aside, LotsPost, if_pos hok, ← HNN.out, ← hkN]
          exact ⟨_, rfl, HOW.out, HK.out, HO.out⟩
        clear hkN hlt
        go_wp2_with fail
        go_ret
        exact HE.out
  · rw [CNumPost, if_neg hle] at hr
    obtain ⟨rfl, hk⟩ := hr
    have HP : Aside (LotsPost b g t p w (.panicked gaveUp) w1) := by
      rw [Aside, LotsPost, if_neg (fun h => hle h.1)]
      exact ⟨rfl, (keeps_of_new HNa.out _).trans hk⟩
    clear hle hk
    go_wp2_with fail
    exact ⟨rfl, HP.out⟩
end Go.Proofs.YtkpmcjfolncmmaaGreatDoor
