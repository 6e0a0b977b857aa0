/- octet's Read and its closure, walked. -/
import Derived.Test.YtkpmcjfolncmmaaGreatDoorSOct2
import Derived.Laws.EntriesVeiled
import Derived.BigRegion
set_option linter.all false
namespace Go.Proofs.YtkpmcjfolncmmaaGreatDoor
open Go.RowKit
structure ROpen (b g : Nat) (t : ByteArray) (p : Int) (bad : Bool) (w : World) : Prop where
  at_ : RAt b t p bad w
  fn : w.cell? ⟨b, 2, none⟩ = some (.func (.func 51) #[] #[.pointer (some ⟨g, 0, none⟩)])
  box : w.cell? ⟨g, 0, none⟩ = some (.pointer (some ⟨b, 0, none⟩))
  free : ∀ j, w.frozen? ⟨b, j, none⟩ = false
  ne : g ≠ b
theorem ROpen.on {b g : Nat} {t : ByteArray} {p : Int} {bad : Bool} {w w' : World} (h : ROpen b g t p bad w) (hb : Below w.heap.size w w') : ROpen b g t p bad w' := by
  have hbl : b < w.heap.size := cell_lt h.at_.text
  exact ⟨⟨(hb.cell (p := ⟨b, 0, none⟩) hbl).trans h.at_.text, (hb.cell (p := ⟨b, 1, none⟩) hbl).trans h.at_.pos, (hb.cell (p := ⟨b, 3, none⟩) hbl).trans h.at_.bad⟩,
    (hb.cell (p := ⟨b, 2, none⟩) hbl).trans h.fn, (hb.cell (p := ⟨g, 0, none⟩) (cell_lt h.box)).trans h.box, fun j => (hb.frozen (p := ⟨b, j, none⟩) hbl).trans (h.free j), h.ne⟩
set_option maxHeartbeats 1000000 in
theorem read_any (t : ByteArray) (w : World) : Calls Tryz.prog 27 #[.string t] w fun e w' => e = .returned (.pointer (some ⟨w.heap.size, 0, none⟩)) ∧ Below w.heap.size w w' ∧ ROpen w.heap.size (w.heap.size + 1) t 0 false w' := by
  go_enter Tryz.func27, Tryz.ntmps27
  go_wp2
  go_ret
  refine ⟨rfl, new_trans (new_alloc _ _) (new_alloc _ _), ?_⟩
  obtain ⟨o, ho⟩ : ∃ o, o = Obj.cells #[Value.string t, Value.int IntKind.i64 0, Value.func (Fn.func 51) #[] #[Value.pointer (some { block := w.heap.size + 1, off := 0 })], Value.bool false] 111 := ⟨_, rfl⟩
  rw [← ho]
  obtain ⟨w1, hw1⟩ : ∃ w1, w1 = w.alloc o := ⟨_, rfl⟩
  have hs : w1.heap.size = w.heap.size + 1 := by rw [hw1]; simp
  rw [← hw1, ← hs]
  have hc : ∀ j, (w1.alloc (.cells #[Value.pointer (some { block := w.heap.size, off := 0 })] 72)).cell? ⟨w.heap.size, j, none⟩ = w1.cell? ⟨w.heap.size, j, none⟩ := fun j => (new_alloc w1 _).cell (p := ⟨w.heap.size, j, none⟩) (by rw [hs]; exact Nat.lt_succ_self _)
  refine ⟨⟨(hc 0).trans ?_, (hc 1).trans ?_, (hc 3).trans ?_⟩, (hc 2).trans ?_, ?_, fun j => ((new_alloc w1 _).frozen (p := ⟨w.heap.size, j, none⟩) (by rw [hs]; exact Nat.lt_succ_self _)).trans ?_, by omega⟩
  · rw [hw1, ho, cell_new]; rfl
  · rw [hw1, ho, cell_new]; rfl
  · rw [hw1, ho, cell_new]; rfl
  · rw [hs, hw1, ho, cell_new]; rfl
  · rw [cell_new]; rfl
  · rw [hw1, ho, frozen_new]
def StepPost (b g : Nat) (t : ByteArray) (p n : Int) (w : World) (e : Ending) (w' : World) : Prop :=
  if n ≤ t.size - p then e = .returned (.bool true) ∧ Keeps (· ≠ b) w w' ∧ ROpen b g t (p + n) false w'
  else e = .returned (.bool false) ∧ Keeps (· ≠ b) w w' ∧ ROpen b g t p true w'
theorem ROpen.setPos {b g : Nat} {t : ByteArray} {p : Int} {bad : Bool} {w : World} (h : ROpen b g t p bad w) (q : Int) : ROpen b g t q bad (w.setCell ⟨b, 1, none⟩ (.int .i64 q)) := by
  have hne := h.ne
  refine ⟨⟨?_, World.cell?_setCell_same _ _ _ h.at_.pos, ?_⟩, ?_, ?_, fun j => by rw [World.frozen?_setCell]; exact h.free j, h.ne⟩
  · rw [World.cell?_setCell_other _ _ _ _ (by simp)]; exact h.at_.text
  · rw [World.cell?_setCell_other _ _ _ _ (by simp)]; exact h.at_.bad
  · rw [World.cell?_setCell_other _ _ _ _ (by simp)]; exact h.fn
  · rw [World.cell?_setCell_other _ _ _ _ (by simp [hne])]; exact h.box
theorem ROpen.setBad {b g : Nat} {t : ByteArray} {p : Int} {bad : Bool} {w : World} (h : ROpen b g t p bad w) (q : Bool) : ROpen b g t p q (w.setCell ⟨b, 3, none⟩ (.bool q)) := by
  have hne := h.ne
  refine ⟨⟨?_, ?_, World.cell?_setCell_same _ _ _ h.at_.bad⟩, ?_, ?_, fun j => by rw [World.frozen?_setCell]; exact h.free j, h.ne⟩
  · rw [World.cell?_setCell_other _ _ _ _ (by simp)]; exact h.at_.text
  · rw [World.cell?_setCell_other _ _ _ _ (by simp)]; exact h.at_.pos
  · rw [World.cell?_setCell_other _ _ _ _ (by simp)]; exact h.fn
  · rw [World.cell?_setCell_other _ _ _ _ (by simp [hne])]; exact h.box
theorem ROpen.other {b g : Nat} {t : ByteArray} {p : Int} {bad : Bool} {w : World} {L : Nat} (h : ROpen b g t p bad w) (hb : L ≠ b) (hg : L ≠ g) (j : Nat) (v : Value) : ROpen b g t p bad (w.setCell ⟨L, j, none⟩ v) := by
  have e : ∀ c i, L ≠ c → (w.setCell ⟨L, j, none⟩ v).cell? ⟨c, i, none⟩ = w.cell? ⟨c, i, none⟩ := fun c i hc => World.cell?_setCell_other _ _ _ _ (by simp [Ne.symm hc])
  exact ⟨⟨(e b 0 hb).trans h.at_.text, (e b 1 hb).trans h.at_.pos, (e b 3 hb).trans h.at_.bad⟩, (e b 2 hb).trans h.fn, (e g 0 hg).trans h.box, fun i => by rw [World.frozen?_setCell]; exact h.free i, h.ne⟩
theorem ROpen.drew {b g : Nat} {t : ByteArray} {p : Int} {bad : Bool} {w : World} (h : ROpen b g t p bad w) : ROpen b g t p bad w.drew := h.on (new_drew w)
theorem ROpen.drewN {b g : Nat} {t : ByteArray} {p : Int} {bad : Bool} {w : World} (h : ROpen b g t p bad w) (n : Nat) : ROpen b g t p bad (w.drewN n) := h.on (new_drewN w n)
set_option maxHeartbeats 2000000 in
set_option maxRecDepth 100000 in
theorem step_any (b g : Nat) (t : ByteArray) (hts : t.size ≤ 9223372036854775807) (p n : Int) (hp : 0 ≤ p ∧ p ≤ t.size) (hn : 0 ≤ n ∧ n ≤ 65535) (w : World) (h : ROpen b g t p false w) :
    Calls Tryz.prog 51 #[.int .i64 n, .pointer (some ⟨g, 0, none⟩)] w (StepPost b g t p n w) := by
  have cg := h.box
  have c0 := h.at_.text
  have c1 := h.at_.pos
  have c3 := h.at_.bad
  have f1 := h.free 1
  have f3 := h.free 3
  have hgb := h.ne
  have H := aside h
  have e0 : IntKind.i64.wrap ((t.size : Int) - p) = (t.size : Int) - p := IntWalk.i64_in _ (by omega)
  clear h
  go_enter Tryz.func51, Tryz.ntmps51
  by_cases hle : n ≤ t.size - p
  · have ed : decide ((t.size : Int) - p < n) = false := by simpa using hle
    have e1 : IntKind.i64.wrap (p + n) = p + n := IntWalk.i64_in _ (by omega)
    have HL := aside hle
    clear hle
    go_wp2_with fail
    go_still_tail 21, (by kernel_rfl)
    go_wp2_with fail
    go_ret
    rw [StepPost, if_pos HL.out]
    exact ⟨rfl, ((Keeps.setCell (Keeps.setCell (Keeps.refl _ w) (p := ⟨b, 3, none⟩) (.inr (fun h => h rfl)) _) (p := ⟨b, 1, none⟩) (.inr (fun h => h rfl)) _)).drew, ((H.out.setBad false).setPos (p + n)).drew⟩
  · have ed : decide ((t.size : Int) - p < n) = true := by simpa using hle
    have HL := aside hle
    clear hle
    go_wp2_with fail
    go_still_tail 21, (by kernel_rfl)
    go_wp2_with fail
    go_ret
    rw [StepPost, if_neg (Int.not_le.2 HL.out)]
    exact ⟨rfl, (Keeps.setCell (Keeps.refl _ w) (p := ⟨b, 3, none⟩) (.inr (fun h => h rfl)) _).drew, (H.out.setBad true).drew⟩
end Go.Proofs.YtkpmcjfolncmmaaGreatDoor
namespace Go.Proofs.YtkpmcjfolncmmaaGreatDoor
open Go.RowKit
theorem ROpen.bound {b g : Nat} {t : ByteArray} {p : Int} {bad : Bool} {w : World} (h : ROpen b g t p bad w) : b < w.heap.size ∧ g < w.heap.size := ⟨cell_lt h.at_.text, cell_lt h.box⟩
theorem ROpen.keeps {b g : Nat} {t : ByteArray} {p : Int} {bad : Bool} {w w' : World} {B : Nat} (h : ROpen b g t p bad w) (hk : Keeps (· < B) w w') (hbB : b < B) (hgB : g < B) : ROpen b g t p bad w' := by
  obtain ⟨hbl, hgl⟩ := h.bound
  have cb : ∀ j, w'.cell? ⟨b, j, none⟩ = w.cell? ⟨b, j, none⟩ := fun j => World.cell?_of_block (hk.block b hbl hbB)
  exact ⟨⟨(cb 0).trans h.at_.text, (cb 1).trans h.at_.pos, (cb 3).trans h.at_.bad⟩, (cb 2).trans h.fn, (World.cell?_of_block (w := w) (a := ⟨g, 0, none⟩) (hk.block g hgl hgB)).trans h.box, fun j => (World.frozen?_of_block (w := w) (a := ⟨b, j, none⟩) (hk.block b hbl hbB)).trans (h.free j), h.ne⟩
def RNumPost (b g : Nat) (t : ByteArray) (p n : Int) (w : World) (e : Ending) (w' : World) : Prop :=
  if n ≤ t.size - p then e = .returned (.int .u64 (getV t p n)) ∧ Keeps (· ≠ b) w w' ∧ ROpen b g t (p + n) false w'
  else e = .returned (.int .u64 0) ∧ Keeps (· ≠ b) w w' ∧ ROpen b g t p true w'
set_option maxHeartbeats 2000000 in
set_option maxRecDepth 100000 in
theorem rnum_any (b g : Nat) (t : ByteArray) (hts : t.size ≤ 9223372036854775807) (p n : Int) (hp : 0 ≤ p ∧ p ≤ t.size) (hn : 1 ≤ n ∧ n ≤ 8) (w : World) (h : ROpen b g t p false w) :
    Calls Tryz.prog 78 #[.pointer (some ⟨b, 0, none⟩), .int .i64 n] w (RNumPost b g t p n w) := by
  have c2 := h.fn
  have c3 := h.at_.bad
  have f3 := h.free 3
  have hw : wideB n = true := by simp [wideB, hn.1, hn.2]
  have H := aside h
  clear h
  go_enter Tryz.func78, Tryz.ntmps78
  go_wp2_with fail
  refine (wide_any n _).mono ?_
  rintro e w1 ⟨rfl, rfl⟩
  go_wp2_with fail
  have h1 := (H.out.setBad false)
  refine (step_any b g t hts p n hp (by omega) _ h1).mono ?_
  intro e w2 hst
  have hk1 : Keeps (· ≠ b) w1 (w1.setCell ⟨b, 3, none⟩ (.bool false)) := Keeps.setCell (Keeps.refl _ w1) (p := ⟨b, 3, none⟩) (.inr (fun h => h rfl)) _
  by_cases hle : n ≤ t.size - p
  · rw [StepPost, if_pos hle] at hst
    obtain ⟨rfl, hk, ho⟩ := hst
    have HP : Aside (∀ w3, Keeps (· ≠ b) w1 w3 → ROpen b g t (p + n) false w3 → RNumPost b g t p n w1 (.returned (.int .u64 (getV t p n))) w3) := by
      intro w3 h3 h4
      rw [RNumPost, if_pos hle]
      exact ⟨rfl, h3, h4⟩
    have HK := aside (hk1.trans hk)
    have HO := aside ho
    have d0 := ho.at_.text
    have d1 := ho.at_.pos
    have e1 : IntKind.i64.wrap (p + n - n) = p := by rw [Int.add_sub_cancel]; exact IntWalk.i64_in _ (by omega)
    clear hle c2 c3 f3 hk1 hk ho h1
    go_wp2_with fail
    go_quiet ((go_at_call 76; exact Calls.quiet_of_same (get_any t hts p n _)))
    go_wp2_with fail
    go_ret
    exact HP.out _ (HK.out.drewN _) (HO.out.drewN _)
  · rw [StepPost, if_neg hle] at hst
    obtain ⟨rfl, hk, ho⟩ := hst
    have HP : Aside (RNumPost b g t p n w1 (.returned (.int .u64 0)) w2) := by
      rw [Aside, RNumPost, if_neg hle]
      exact ⟨rfl, hk1.trans hk, ho⟩
    clear hle c2 c3 f3 hk1 hk ho h1
    go_wp2_with fail
    go_ret
    exact HP.out
end Go.Proofs.YtkpmcjfolncmmaaGreatDoor
namespace Go.Proofs.YtkpmcjfolncmmaaGreatDoor
open Go.RowKit
def gaveUp : List PanicEntry := [{ v := .iface 147 (.agg #[]), recovered := false }]
def CNumPost (v : Int → Value) (b g : Nat) (t : ByteArray) (p n : Int) (w : World) (e : Ending) (w' : World) : Prop :=
  if n ≤ t.size - p then e = .returned (v (getV t p n)) ∧ Keeps (· ≠ b) w w' ∧ ROpen b g t (p + n) false w'
  else e = .panicked gaveUp ∧ Keeps (· ≠ b) w w'
set_option maxHeartbeats 2000000 in
set_option maxRecDepth 100000 in
theorem cnum_any (b g : Nat) (t : ByteArray) (hts : t.size ≤ 9223372036854775807) (p n : Int) (hp : 0 ≤ p ∧ p ≤ t.size) (hn : 1 ≤ n ∧ n ≤ 8) (w : World) (h : ROpen b g t p false w) :
    Calls Tryz.prog 52 #[.agg #[.pointer (some ⟨b, 0, none⟩)], .int .i64 n] w (CNumPost (.int .u64) b g t p n w) := by
  have H := aside h
  have hbl := h.bound.1
  clear h
  go_enter Tryz.func52, Tryz.ntmps52
  go_wp2_with fail
  obtain ⟨wa, hwa⟩ : ∃ z, z = w.alloc (.cells #[.pointer (some ⟨b, 0, none⟩)] 75) := ⟨_, rfl⟩
  have HNa : Aside (Below w.heap.size w wa) := by rw [hwa]; exact new_alloc _ _
  obtain ⟨L, hL⟩ : ∃ x, x = w.heap.size := ⟨_, rfl⟩
  have HLc : Aside (wa.cell? ⟨L, 0, none⟩ = some (.pointer (some ⟨b, 0, none⟩))) := by rw [hwa, hL]; exact cell_new _ _ _ 0
  have HLw := aside hL
  rw [← hwa, ← hL]
  clear hwa hL
  refine (rnum_any b g t hts p n hp hn wa (H.out.on HNa.out)).mono ?_
  intro e w1 hr
  have hLb : L ≠ b := by have := HLw.out; omega
  by_cases hle : n ≤ t.size - p
  · rw [RNumPost, if_pos hle] at hr
    obtain ⟨rfl, hk, ho⟩ := hr
    have HP : Aside (∀ w3, Keeps (· ≠ b) w w3 → ROpen b g t (p + n) false w3 → CNumPost (.int .u64) b g t p n w (.returned (.int .u64 (getV t p n))) w3) := by
      intro w3 h3 h4
      rw [CNumPost, if_pos hle]
      exact ⟨rfl, h3, h4⟩
    have HK := aside ((keeps_of_new HNa.out _).trans hk)
    have HO := aside ho
    have cL : w1.cell? ⟨L, 0, none⟩ = some (.pointer (some ⟨b, 0, none⟩)) := (World.cell?_of_block (w := wa) (a := ⟨L, 0, none⟩) (hk.block L (cell_lt HLc.out) hLb)).trans HLc.out
    have hp2 : 0 ≤ p + n ∧ p + n ≤ t.size := by omega
    have he : endV t (p + n) false ≠ 14 := by unfold endV; rw [if_neg (by decide)]; split <;> decide
    have hne : (endV t (p + n) false == 14) = false := by simpa using he
    have HNE := aside hne
    clear hle hk ho hne he
    go_wp2_with fail
    refine (end_any b t hts (p + n) hp2 false w1 HO.out.at_).mono ?_
    rintro e w2 ⟨rfl, hb⟩
    obtain ⟨ev, hev⟩ : ∃ ev, ev = endV t (p + n) false := ⟨_, rfl⟩
    have hne := HNE.out
    rw [← hev] at hne ⊢
    have HB := aside hb
    clear cL hev hb
    go_wp2_with fail
    go_ret
    exact HP.out _ (HK.out.new HB.out) (HO.out.on HB.out)
  · rw [RNumPost, if_neg hle] at hr
    obtain ⟨rfl, hk, ho⟩ := hr
    have HP : Aside (∀ w3, Keeps (· ≠ b) w w3 → CNumPost (.int .u64) b g t p n w (.panicked gaveUp) w3) := by
      intro w3 h3
      rw [CNumPost, if_neg hle]
      exact ⟨rfl, h3⟩
    have HK := aside ((keeps_of_new HNa.out _).trans hk)
    have HO := aside ho
    have cL : w1.cell? ⟨L, 0, none⟩ = some (.pointer (some ⟨b, 0, none⟩)) := (World.cell?_of_block (w := wa) (a := ⟨L, 0, none⟩) (hk.block L (cell_lt HLc.out) hLb)).trans HLc.out
    clear hle hk ho
    go_wp2_with fail
    refine (end_any b t hts p hp true w1 HO.out.at_).mono ?_
    rintro e w2 ⟨rfl, hb⟩
    have HB := aside hb
    rw [show endV t p true = 14 from rfl]
    clear cL hb
    go_wp2_with fail
    exact ⟨rfl, HP.out _ (HK.out.new HB.out)⟩
theorem getV_bound (t : ByteArray) (p n : Int) (hn : 1 ≤ n ∧ n ≤ 8) : 0 ≤ getV t p n ∧ getV t p n < 256 ^ n.toNat := by
  unfold getV
  split
  · exact getTo_bound t p.toNat n.toNat
  · refine ⟨by omega, ?_⟩
    have : (0 : Int) < 256 ^ n.toNat := Int.pow_pos (by decide)
    omega
set_option maxHeartbeats 2000000 in
set_option maxRecDepth 100000 in
theorem csmall_any (b g : Nat) (t : ByteArray) (hts : t.size ≤ 9223372036854775807) (p : Int) (hp : 0 ≤ p ∧ p ≤ t.size) (w : World) (h : ROpen b g t p false w) :
    Calls Tryz.prog 28 #[.agg #[.pointer (some ⟨b, 0, none⟩)]] w (CNumPost (.int .i64) b g t p 1 w) := by
  have H := aside h
  have hbl := h.bound.1
  clear h
  go_enter Tryz.func28, Tryz.ntmps28
  go_wp2_with fail
  obtain ⟨wa, hwa⟩ : ∃ z, z = w.alloc (.cells #[.pointer (some ⟨b, 0, none⟩)] 75) := ⟨_, rfl⟩
  have HNa : Aside (Below w.heap.size w wa) := by rw [hwa]; exact new_alloc _ _
  rw [← hwa]
  clear hwa
  refine (cnum_any b g t hts p 1 hp (by omega) wa (H.out.on HNa.out)).mono ?_
  intro e w1 hr
  by_cases hle : 1 ≤ t.size - p
  · rw [CNumPost, if_pos hle] at hr
    obtain ⟨rfl, hk, ho⟩ := hr
    have HP : Aside (CNumPost (.int .i64) b g t p 1 w (.returned (.int .i64 (getV t p 1))) w1) := by
      rw [Aside, CNumPost, if_pos hle]
      exact ⟨rfl, (keeps_of_new HNa.out _).trans hk, ho⟩
    have hbd := getV_bound t p 1 (by omega)
    obtain ⟨v, hv⟩ : ∃ v, v = getV t p 1 := ⟨_, rfl⟩
    have HV := aside hv
    rw [← hv] at hbd ⊢
    have hv0 : 0 ≤ v := hbd.1
    have hv1 : v ≤ 255 := by have := hbd.2; simp at this; omega
    clear hle hk ho hbd hv
    go_wp2_with fail
    go_ret
    rw [HV.out]
    exact HP.out
  · rw [CNumPost, if_neg hle] at hr
    obtain ⟨rfl, hk⟩ := hr
    have HP : Aside (CNumPost (.int .i64) b g t p 1 w (.panicked gaveUp) w1) := by
      rw [Aside, CNumPost, if_neg hle]
      exact ⟨rfl, (keeps_of_new HNa.out _).trans hk⟩
    clear hle hk
    go_wp2_with fail
    exact ⟨rfl, HP.out⟩
end Go.Proofs.YtkpmcjfolncmmaaGreatDoor
