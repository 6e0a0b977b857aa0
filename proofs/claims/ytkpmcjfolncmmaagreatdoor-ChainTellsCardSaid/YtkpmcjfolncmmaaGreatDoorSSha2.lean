/- sha's (*state).take, walked: one block. -/
import Derived.Test.YtkpmcjfolncmmaaGreatDoorSSha1
import Derived.Test.YtkpmcjfolncmmaaGreatDoorSRoot
import Derived.Laws.Rows
import Derived.Lib.ConvBytes
import Derived.Deep.RegionHeld3
import Derived.Deep.DeepCutAuto
set_option linter.all false
namespace Go.Proofs.YtkpmcjfolncmmaaGreatDoor
open Go.RowKit
def WordsP (B : Nat → Int) (A t : Nat) (x : Int) (W : World) : Prop :=
  ∀ j, j < 64 → W.cell? ⟨A, j, none⟩ = some (.int .u32 (if j < t then wd B j else if j = t then x else 0)) ∧ W.frozen? ⟨A, j, none⟩ = false
theorem WordsP.on {B : Nat → Int} {A t : Nat} {x : Int} {W W' : World} (h : WordsP B A t x W) (hb : Below W.heap.size W W') : WordsP B A t x W' := fun j hj =>
  have hA := cell_lt (h j hj).1
  ⟨(hb.cell hA).trans (h j hj).1, (hb.frozen hA).trans (h j hj).2⟩
theorem WordsP.set {B : Nat → Int} {A t : Nat} {x : Int} {W : World} (h : WordsP B A t x W) (ht : t < 64) (y : Int) : WordsP B A t y (W.setCell ⟨A, t, none⟩ (.int .u32 y)) := fun j hj => by
  refine ⟨?_, by rw [World.frozen?_setCell]; exact (h j hj).2⟩
  by_cases e : j = t
  · subst e
    rw [World.cell?_setCell_same _ _ _ (h j hj).1, if_neg (by omega), if_pos rfl]
  · rw [World.cell?_setCell_other _ _ _ _ (by intro e'; simp only [Addr.mk.injEq] at e'; omega), (h j hj).1, if_neg e, if_neg e]
theorem WordsP.next {B : Nat → Int} {A t : Nat} {W : World} (h : WordsP B A t (wd B t) W) : WordsP B A (t + 1) 0 W := fun j hj => by
  refine ⟨?_, (h j hj).2⟩
  rw [(h j hj).1]
  by_cases e : j < t
  · rw [if_pos e, if_pos (by omega)]
  · by_cases e2 : j = t
    · rw [if_neg e, if_pos e2, if_pos (by omega), e2]
    · rw [if_neg e, if_neg e2, if_neg (by omega), ite_self]
theorem WordsP.low {B : Nat → Int} {A t j : Nat} {x : Int} {W : World} (h : WordsP B A t x W) (hj : j < t) (ht : t ≤ 64) : W.cell? ⟨A, j, none⟩ = some (.int .u32 (wd B j)) := by
  rw [(h j (by omega)).1, if_pos hj]
theorem s4_set {W : World} {A t : Nat} {x2 x7 x15 x16 : Int} {v : Value} (h : W.cell? ⟨A, t - 2, none⟩ = some (.int .u32 x2) ∧ W.cell? ⟨A, t - 7, none⟩ = some (.int .u32 x7) ∧ W.cell? ⟨A, t - 15, none⟩ = some (.int .u32 x15) ∧ W.cell? ⟨A, t - 16, none⟩ = some (.int .u32 x16)) (h16 : 16 ≤ t) :
    (W.setCell ⟨A, t, none⟩ v).cell? ⟨A, t - 2, none⟩ = some (.int .u32 x2) ∧ (W.setCell ⟨A, t, none⟩ v).cell? ⟨A, t - 7, none⟩ = some (.int .u32 x7) ∧ (W.setCell ⟨A, t, none⟩ v).cell? ⟨A, t - 15, none⟩ = some (.int .u32 x15) ∧ (W.setCell ⟨A, t, none⟩ v).cell? ⟨A, t - 16, none⟩ = some (.int .u32 x16) := by
  obtain ⟨a, b, c, d⟩ := h
  refine ⟨?_, ?_, ?_, ?_⟩
  · rw [World.cell?_setCell_other _ _ _ _ (by intro e; simp only [Addr.mk.injEq] at e; omega)]; exact a
  · rw [World.cell?_setCell_other _ _ _ _ (by intro e; simp only [Addr.mk.injEq] at e; omega)]; exact b
  · rw [World.cell?_setCell_other _ _ _ _ (by intro e; simp only [Addr.mk.injEq] at e; omega)]; exact c
  · rw [World.cell?_setCell_other _ _ _ _ (by intro e; simp only [Addr.mk.injEq] at e; omega)]; exact d
theorem s4_drew {W : World} {A t : Nat} {x2 x7 x15 x16 : Int} (h : W.cell? ⟨A, t - 2, none⟩ = some (.int .u32 x2) ∧ W.cell? ⟨A, t - 7, none⟩ = some (.int .u32 x7) ∧ W.cell? ⟨A, t - 15, none⟩ = some (.int .u32 x15) ∧ W.cell? ⟨A, t - 16, none⟩ = some (.int .u32 x16)) :
    W.drew.cell? ⟨A, t - 2, none⟩ = some (.int .u32 x2) ∧ W.drew.cell? ⟨A, t - 7, none⟩ = some (.int .u32 x7) ∧ W.drew.cell? ⟨A, t - 15, none⟩ = some (.int .u32 x15) ∧ W.drew.cell? ⟨A, t - 16, none⟩ = some (.int .u32 x16) := h
theorem s4_drewN {W : World} {A t : Nat} {x2 x7 x15 x16 : Int} (n : Nat) (h : W.cell? ⟨A, t - 2, none⟩ = some (.int .u32 x2) ∧ W.cell? ⟨A, t - 7, none⟩ = some (.int .u32 x7) ∧ W.cell? ⟨A, t - 15, none⟩ = some (.int .u32 x15) ∧ W.cell? ⟨A, t - 16, none⟩ = some (.int .u32 x16)) :
    (W.drewN n).cell? ⟨A, t - 2, none⟩ = some (.int .u32 x2) ∧ (W.drewN n).cell? ⟨A, t - 7, none⟩ = some (.int .u32 x7) ∧ (W.drewN n).cell? ⟨A, t - 15, none⟩ = some (.int .u32 x15) ∧ (W.drewN n).cell? ⟨A, t - 16, none⟩ = some (.int .u32 x16) := h
theorem words_round {B : Nat → Int} {A t : Nat} {W : World} (h : WordsP B A t 0 W) (ht : t < 64) (n : Nat) (v : Int) (hv : v = wd B t) : WordsP B A (t + 1) 0 ((W.drewN n).setCell ⟨A, t, none⟩ (.int .u32 v)) := by
  subst hv
  exact ((h.on (new_drewN W n)).set ht _).next
theorem below_round {w W : World} {A : Nat} (h : Below w.heap.size w W) (hA : A = w.heap.size) (n t : Nat) (v : Value) : Below w.heap.size w ((W.drewN n).setCell ⟨A, t, none⟩ v) :=
  (st_new w _ _ h (new_drewN W n)).setCell (p := ⟨A, t, none⟩) (by rw [hA]; exact Nat.le_refl _) v
theorem idx_rounds (kk : Array Value) (t : Nat) (v : Int) (ht : t < 64) (h : kk[t]? = some (.int .u32 v)) (W : World) : (Instr.index 198 (.agg kk) (.int .i64 (t : Int))).run Tryz.prog W = .ok (.int .u32 v) W := by
  have a := Tryz.isAgg133
  have z := Tryz.sizeOf133
  simp [Instr.index, go_sem, part, a, z, h, asIntOf]
  intro h2
  omega
theorem idx_eight (cs : Array Value) (t : Nat) (v : Int) (ht : t < 8) (h : cs[t]? = some (.int .u32 v)) (W : World) : (Instr.index 134 (.agg cs) (.int .i64 (t : Int))).run Tryz.prog W = .ok (.int .u32 v) W := by
  have a := Tryz.isAgg133
  have z := Tryz.sizeOf133
  simp [Instr.index, go_sem, part, a, z, h, asIntOf]
  intro h2
  omega
theorem get_lit8 (z : S8) (i : Nat) (hi : i < 8) : (#[Value.int .u32 z.a, .int .u32 z.b, .int .u32 z.c, .int .u32 z.d, .int .u32 z.e, .int .u32 z.f, .int .u32 z.g, .int .u32 z.h] : Array Value)[i]? = some (.int .u32 (z.get i)) := by
  match i, hi with
  | 0, _ | 1, _ | 2, _ | 3, _ | 4, _ | 5, _ | 6, _ | 7, _ => rfl
  | _ + 8, h => omega
def AddAt (b i : Nat) (s x : S8) (W : World) : Prop := ∀ j, j < 8 → W.cell? ⟨b, j, none⟩ = some (.int .u32 (if j < i then (addS s x).get j else s.get j)) ∧ W.frozen? ⟨b, j, none⟩ = false
theorem AddAt.step {b i : Nat} {s x : S8} {W : World} (h : AddAt b i s x W) (hi : i < 8) (v : Int) (hv : v = (addS s x).get i) : AddAt b (i + 1) s x (W.setCell ⟨b, i, none⟩ (.int .u32 v)) := fun j hj => by
  refine ⟨?_, by rw [World.frozen?_setCell]; exact (h j hj).2⟩
  by_cases e : j = i
  · subst e
    rw [World.cell?_setCell_same _ _ _ (h j hj).1, if_pos (by omega), hv]
  · rw [World.cell?_setCell_other _ _ _ _ (by intro e'; simp only [Addr.mk.injEq] at e'; omega), (h j hj).1]
    by_cases e2 : j < i
    · rw [if_pos e2, if_pos (by omega)]
    · rw [if_neg e2, if_neg (by omega)]
def TailAt (b : Nat) (w W : World) : Prop := ∀ j, 8 ≤ j → W.cell? ⟨b, j, none⟩ = w.cell? ⟨b, j, none⟩ ∧ W.frozen? ⟨b, j, none⟩ = w.frozen? ⟨b, j, none⟩
theorem TailAt.set {b i : Nat} {w W : World} (h : TailAt b w W) (hi : i < 8) (v : Value) : TailAt b w (W.setCell ⟨b, i, none⟩ v) := fun j hj =>
  ⟨by rw [World.cell?_setCell_other _ _ _ _ (by intro e'; simp only [Addr.mk.injEq] at e'; omega)]; exact (h j hj).1, by rw [World.frozen?_setCell]; exact (h j hj).2⟩
theorem AddAt.drew {b i : Nat} {s x : S8} {W : World} (h : AddAt b i s x W) : AddAt b i s x W.drew := h
theorem TailAt.drew {b : Nat} {w W : World} (h : TailAt b w W) : TailAt b w W.drew := h
def TakePost (b : Nat) (K : Nat → Int) (st : S8) (s : ByteArray) (w : World) (e : Ending) (w' : World) : Prop :=
  e = .returned (.tuple #[]) ∧ Keeps (· ≠ b) w w' ∧ (∀ j, j < 8 → w'.cell? ⟨b, j, none⟩ = some (.int .u32 ((blockF K st s).get j)) ∧ w'.frozen? ⟨b, j, none⟩ = false) ∧ TailAt b w w'
def FourAt (s : ByteArray) (C t : Nat) (W : World) : Prop := ∀ k, k < 4 → W.cell? ⟨C, k, none⟩ = some (.int .u8 (byteOf s (4 * t + k)))
theorem new_bytesWorld (w : World) (e : TypeId) (s : ByteArray) : Below w.heap.size w (Lib.bytesWorld w e s) :=
  ⟨by simp [Lib.bytesWorld, World.freeze, World.alloc, World.drew, -World.alloc_eq, -World.drew_eq], by simp [Lib.bytesWorld, World.freeze, World.alloc, World.drew, -World.alloc_eq, -World.drew_eq], by simp [Lib.bytesWorld, World.freeze, World.alloc, World.drew, -World.alloc_eq, -World.drew_eq], by rw [Lib.bytesWorld_size]; omega, fun k hk => Lib.bytesWorld_at_old w e s k hk⟩
theorem words_start (B : Nat → Int) (w : World) (cs : Array Value) (hc : cs = Array.replicate 64 (.int .u32 0)) : WordsP B w.heap.size 0 0 (w.alloc (.cells cs 198)) := fun j hj => by
  subst hc
  have h : (w.alloc (.cells (Array.replicate 64 (.int .u32 0)) 198)).heap[w.heap.size]? = some (.cells (Array.replicate 64 (.int .u32 0)) 198 (0, 0)) := by
    show (w.heap.push _)[w.heap.size]? = _
    simp
  refine ⟨?_, ?_⟩
  · unfold World.cell?
    simp only [h]
    simp [hj]
  · unfold World.frozen?
    simp only [h]
    simp
def TabIn (kk : Array Value) (w : World) : Prop := ∃ T fr, w.heap[2]? = some (.cells kk T fr)
theorem TabIn.lt {kk : Array Value} {w : World} (h : TabIn kk w) : 2 < w.heap.size := by
  obtain ⟨_, _, h⟩ := h
  exact (Array.getElem?_eq_some_iff.1 h).1
theorem TabIn.of_block {kk : Array Value} {w w' : World} (h : TabIn kk w) (e : w'.heap[2]? = w.heap[2]?) : TabIn kk w' := by
  obtain ⟨T, fr, h⟩ := h
  exact ⟨T, fr, e.trans h⟩
set_option maxHeartbeats 8000000 in
set_option maxRecDepth 100000 in
theorem take_any (b : Nat) (s : ByteArray) (w : World) (hs : s.size = 64) (hbl : b < w.heap.size) (kk : Array Value) (hkz : kk.size = 64) (K : Nat → Int) (hk : TabIn kk w) (hK : ∀ j, j < 64 → kk[j]? = some (.int .u32 (K j)))
    (st : S8) (hst : st.ok) (hc : ∀ j, j < 8 → w.cell? ⟨b, j, none⟩ = some (.int .u32 (st.get j)) ∧ w.frozen? ⟨b, j, none⟩ = false) :
    Calls Tryz.prog 105 #[.pointer (some ⟨b, 0, none⟩), .string s] w (TakePost b K st s w) := by
  have HKK := aside hk
  have HK := aside hK
  have HS := aside hs
  have HC := aside hc
  have HST := aside hst
  have HBL := aside hbl
  have hsz : s.size ≤ 64 := by omega
  have hsz' : 64 ≤ s.size := by omega
  clear hk hs hK hc hst hbl
  go_enter Tryz.func105, Tryz.ntmps105
  go_upto_region 1 with fail
  rw [show (#[Value.int IntKind.u32 0, Value.int IntKind.u32 0, Value.int IntKind.u32 0, Value.int IntKind.u32 0, Value.int IntKind.u32 0, Value.int IntKind.u32 0, Value.int IntKind.u32 0, Value.int IntKind.u32 0, Value.int IntKind.u32 0, Value.int IntKind.u32 0, Value.int IntKind.u32 0, Value.int IntKind.u32 0, Value.int IntKind.u32 0, Value.int IntKind.u32 0, Value.int IntKind.u32 0, Value.int IntKind.u32 0, Value.int IntKind.u32 0, Value.int IntKind.u32 0, Value.int IntKind.u32 0, Value.int IntKind.u32 0, Value.int IntKind.u32 0, Value.int IntKind.u32 0, Value.int IntKind.u32 0, Value.int IntKind.u32 0, Value.int IntKind.u32 0, Value.int IntKind.u32 0, Value.int IntKind.u32 0, Value.int IntKind.u32 0, Value.int IntKind.u32 0, Value.int IntKind.u32 0, Value.int IntKind.u32 0, Value.int IntKind.u32 0, Value.int IntKind.u32 0, Value.int IntKind.u32 0, Value.int IntKind.u32 0, Value.int IntKind.u32 0, Value.int IntKind.u32 0, Value.int IntKind.u32 0, Value.int IntKind.u32 0, Value.int IntKind.u32 0, Value.int IntKind.u32 0, Value.int IntKind.u32 0, Value.int IntKind.u32 0, Value.int IntKind.u32 0, Value.int IntKind.u32 0, Value.int IntKind.u32 0, Value.int IntKind.u32 0, Value.int IntKind.u32 0, Value.int IntKind.u32 0, Value.int IntKind.u32 0, Value.int IntKind.u32 0, Value.int IntKind.u32 0, Value.int IntKind.u32 0, Value.int IntKind.u32 0, Value.int IntKind.u32 0, Value.int IntKind.u32 0, Value.int IntKind.u32 0, Value.int IntKind.u32 0, Value.int IntKind.u32 0, Value.int IntKind.u32 0, Value.int IntKind.u32 0, Value.int IntKind.u32 0, Value.int IntKind.u32 0, Value.int IntKind.u32 0] : Array Value) = Array.replicate 64 (.int .u32 0) from rfl]
  obtain ⟨w1, hw1⟩ : ∃ x, x = w.alloc (.cells (Array.replicate 64 (.int .u32 0)) 198) := ⟨_, rfl⟩
  obtain ⟨A, hA⟩ : ∃ x, x = w.heap.size := ⟨_, rfl⟩
  have HW1 : Aside (WordsP (byteOf s) A 0 0 w1) := by rw [hw1, hA]; exact words_start _ _ _ rfl
  have HB1 : Aside (Below w.heap.size w w1) := by rw [hw1]; exact new_alloc _ _
  have HA := aside hA
  rw [← hw1, ← hA]
  clear hw1 hA
  have kc := fun (W : World) (t : Nat) => Lib.run_convert_string_bytes (P := Tryz.prog) W 9 26 5 (s.extract (4 * t) (4 * t + 4)) Tryz.underlying9 Tryz.underlying26 Tryz.underlying5
  have KC := aside kc
  clear kc
  go_wp2
  go_loopg [5, 7, 22] 64 (fun g v5 v7 v22 wr => ∃ t : Nat, v22 = .int .i64 t ∧ t ≤ 64 ∧ 64 - t ≤ g ∧ Aside (WordsP (byteOf s) A t 0 wr) ∧ Aside (Below w.heap.size w wr))
  case atStart => exact ⟨0, rfl, by omega, by omega, HW1, HB1⟩
  case round =>
    obtain ⟨t, rfl, ht, hg, HW, HB⟩ := hrel
    clear HW1 HB1
    by_cases h64 : t < 64
    · have hz64 : (t : Int) < 64 := by omega
      by_cases h16 : 16 ≤ t
      · skip
        have hz16 : (16 : Int) ≤ t := by omega
        have c2 := HW.out.low (j := t - 2) (by omega) ht
        have c7 := HW.out.low (j := t - 7) (by omega) ht
        have c15 := HW.out.low (j := t - 15) (by omega) ht
        have c16 := HW.out.low (j := t - 16) (by omega) ht
        have c0 := (HW.out t h64).1
        have f0 := (HW.out t h64).2
        rw [if_neg (by omega), if_pos rfl] at c0
        have HWH := aside (wd_high (byteOf s) t h16)
        obtain ⟨x2, hx2⟩ : ∃ x, x = wd (byteOf s) (t - 2) := ⟨_, rfl⟩
        obtain ⟨x7, hx7⟩ : ∃ x, x = wd (byteOf s) (t - 7) := ⟨_, rfl⟩
        obtain ⟨x15, hx15⟩ : ∃ x, x = wd (byteOf s) (t - 15) := ⟨_, rfl⟩
        obtain ⟨x16, hx16⟩ : ∃ x, x = wd (byteOf s) (t - 16) := ⟨_, rfl⟩
        rw [← hx2] at c2 HWH
        rw [← hx7] at c7 HWH
        rw [← hx15] at c15 HWH
        rw [← hx16] at c16 HWH
        clear hx2 hx7 hx15 hx16 KC
        have e2 : IntKind.i64.wrap ((t : Int) - 2) = (t : Int) - 2 := IntWalk.i64_in _ (by omega)
        have u2 : (t : Int) - 2 < 64 := by omega
        have z2 : ((t : Int) - 2).toNat = t - 2 := by omega
        have l2 : (2 : Int) ≤ (t : Int) := by omega
        have e7 : IntKind.i64.wrap ((t : Int) - 7) = (t : Int) - 7 := IntWalk.i64_in _ (by omega)
        have u7 : (t : Int) - 7 < 64 := by omega
        have z7 : ((t : Int) - 7).toNat = t - 7 := by omega
        have l7 : (7 : Int) ≤ (t : Int) := by omega
        have e15 : IntKind.i64.wrap ((t : Int) - 15) = (t : Int) - 15 := IntWalk.i64_in _ (by omega)
        have u15 : (t : Int) - 15 < 64 := by omega
        have z15 : ((t : Int) - 15).toNat = t - 15 := by omega
        have l15 : (15 : Int) ≤ (t : Int) := by omega
        have e16 : IntKind.i64.wrap ((t : Int) - 16) = (t : Int) - 16 := IntWalk.i64_in _ (by omega)
        have u16 : (t : Int) - 16 < 64 := by omega
        have z16 : ((t : Int) - 16).toNat = t - 16 := by omega
        go_wp2_with fail
        go_region_held3 (fun W => W.cell? ⟨A, t - 2, none⟩ = some (.int .u32 x2) ∧ W.cell? ⟨A, t - 7, none⟩ = some (.int .u32 x7) ∧ W.cell? ⟨A, t - 15, none⟩ = some (.int .u32 x15) ∧ W.cell? ⟨A, t - 16, none⟩ = some (.int .u32 x16)) (first | exact s4_set (by assumption) h16 | exact s4_drew ⟨c2, c7, c15, c16⟩ | exact s4_drewN _ ⟨c2, c7, c15, c16⟩) ((go_at_call 108; refine (part_any _ _ _ _ _ (by simp)).mono ?_; rintro e w1 ⟨rfl, n1, rfl⟩))
        clear c2 c7 c15 c16 c0 f0 e2 e7 e15 e16 u2 u7 u15 u16 z2 z7 z15 z16 l2 l7 l15
        go_wp2
        go_roundg (64 - (t + 1))
        case measure => omega
        case rel =>
          exact ⟨t + 1, by go_num, by omega, by omega, words_round HW.out h64 _ _ (by rw [HWH.out]; simp only [mixW]; omega), below_round HB.out HA.out _ _ _⟩
      · skip
        have hz16 : ¬ (16 : Int) ≤ t := by omega
        have hs4 : 4 * t + 4 ≤ s.size := by omega
        have hzz : 4 * (t : Int) + 4 ≤ 64 := by omega
        have kc := fun W => KC.out W t
        clear KC
        go_wp2
        obtain ⟨C, hC⟩ : ∃ x, x = wr.heap.size := ⟨_, rfl⟩
        obtain ⟨w2, hw2⟩ : ∃ x, x = Lib.bytesWorld wr 5 (s.extract (4 * t) (4 * t + 4)) := ⟨_, rfl⟩
        have hsx : (s.extract (4 * t) (4 * t + 4)).size = 4 := by rw [ByteArray.size_extract]; omega
        have HF2 : Aside (FourAt s C t w2) := fun k hk => by
          rw [hw2, hC, Lib.bytesWorld_cell _ _ _ _ (by rw [hsx]; exact hk)]
          have := byteOf_extract s (4 * t) (4 * t + 4) k (by omega)
          unfold byteOf at this
          rw [this]
          rfl
        have HN2 : Below wr.heap.size wr w2 := by rw [hw2]; exact new_bytesWorld _ _ _
        have HW2 := aside (HW.out.on HN2)
        have HB2 := aside (st_new w _ _ HB.out HN2)
        have hAC : A ≠ C := by have := cell_lt (HW.out 0 (by omega)).1; simp only at this; omega
        have HWL := aside (wd_low (byteOf s) t (by omega))
        rw [← hC, ← hw2]
        clear hw2 hC hsx HN2 HW HB kc
        go_loopg [7, 59] 4 (fun g v7 v59 wr => ∃ k : Nat, v59 = .int .i64 k ∧ k ≤ 4 ∧ 4 - k ≤ g ∧ Aside (WordsP (byteOf s) A t (beTo (byteOf s) t k) wr) ∧ Aside (FourAt s C t wr) ∧ Aside (Below w.heap.size w wr))
        case atStart => exact ⟨0, rfl, by omega, by omega, HW2, HF2, HB2⟩
        case round =>
          clear HW2 HF2 HB2
          obtain ⟨k, rfl, hk, hgk, HW, HF, HB⟩ := hrel
          by_cases h4 : k < 4
          · skip
            have hk4 : (k : Int) < 4 := by omega
            have c0 := (HW.out t h64).1
            have f0 := (HW.out t h64).2
            rw [if_neg (by omega), if_pos rfl] at c0
            have q0 := HF.out k h4
            have HBT : Aside (beTo (byteOf s) t (k + 1) = or8 (beTo (byteOf s) t k) (byteOf s (4 * t + k))) := rfl
            obtain ⟨x, hx⟩ : ∃ x, x = beTo (byteOf s) t k := ⟨_, rfl⟩
            obtain ⟨y, hy⟩ : ∃ x, x = byteOf s (4 * t + k) := ⟨_, rfl⟩
            have hy8 := byteOf_u8 s (4 * t + k)
            rw [← hx] at c0 HBT HW
            rw [← hy] at q0 HBT hy8
            obtain ⟨hy0, hy1⟩ := hy8
            clear hx hy
            go_wp2
            go_roundg (4 - (k + 1))
            case measure => omega
            case rel =>
              refine ⟨k + 1, by go_num, by omega, by omega, ?_, fun j hj => ?_, HB.out.setCell (p := ⟨A, t, none⟩) (by rw [HA.out]; exact Nat.le_refl _) _⟩
              · rw [HBT.out]
                exact HW.out.set h64 _
              · rw [World.cell?_setCell_other _ _ _ _ (by intro e'; simp only [Addr.mk.injEq] at e'; omega)]
                exact HF.out j hj
          · skip
            have hk4 : ¬ (k : Int) < 4 := by omega
            obtain rfl : k = 4 := by omega
            have HW4 : Aside (WordsP (byteOf s) A (t + 1) 0 wr) := by have := HW.out; rw [← HWL.out] at this; exact this.next
            clear HW HF
            go_wp2
            go_roundg (64 - (t + 1))
            case measure => omega
            case rel => exact ⟨t + 1, by go_num, by omega, by omega, HW4, HB⟩
    · skip
      have hz64 : ¬ (t : Int) < 64 := by omega
      obtain rfl : t = 64 := by omega
      clear KC hg ht h64
      have hcc : ∀ j, j < 8 → wr.cell? ⟨b, j, none⟩ = some (.int .u32 (st.get j)) := fun j hj => (HB.out.cell HBL.out).trans (HC.out j hj).1
      have c0 : wr.cell? ⟨b, 0, none⟩ = some (.int .u32 st.a) := hcc 0 (by omega)
      have c1 : wr.cell? ⟨b, 1, none⟩ = some (.int .u32 st.b) := hcc 1 (by omega)
      have c2 : wr.cell? ⟨b, 2, none⟩ = some (.int .u32 st.c) := hcc 2 (by omega)
      have c3 : wr.cell? ⟨b, 3, none⟩ = some (.int .u32 st.d) := hcc 3 (by omega)
      have c4 : wr.cell? ⟨b, 4, none⟩ = some (.int .u32 st.e) := hcc 4 (by omega)
      have c5 : wr.cell? ⟨b, 5, none⟩ = some (.int .u32 st.f) := hcc 5 (by omega)
      have c6 : wr.cell? ⟨b, 6, none⟩ = some (.int .u32 st.g) := hcc 6 (by omega)
      have c7 : wr.cell? ⟨b, 7, none⟩ = some (.int .u32 st.h) := hcc 7 (by omega)
      clear hcc
      go_wp2_with fail
      go_quiet (fail)
      clear c0 c1 c2 c3 c4 c5 c6 c7
      have HW5 : Aside (WordsP (byteOf s) A 64 0 (wr.drewN nq)) := HW.out.on (new_drewN _ _)
      have HB5 : Aside (Below w.heap.size w (wr.drewN nq)) := st_new w _ _ HB.out (new_drewN _ _)
      clear HW HB
      generalize wr.drewN nq = w3 at HW5 HB5 ⊢
      obtain ⟨kT, kF, hkk⟩ := HKK.out.of_block (HB5.out.block _ HKK.out.lt)
      have HKZ := aside hkz
      have hi : (Tryz.prog.info? 198).map (·.size) = some kk.size := by rw [hkz]; kernel_rfl
      clear hkz
      go_wp2_with (first | (refine wpList_load_row rfl _ _ rfl 2 rfl kT kk kF _ hkk Tryz.underlying198 rfl hi ?_) | fail)
      obtain ⟨B, hB⟩ : ∃ x, x = wd (byteOf s) := ⟨_, rfl⟩
      have HBB := aside hB
      have hBk : ∀ j, 0 ≤ B j ∧ B j ≤ 4294967295 := by rw [hB]; exact wd_u32 (byteOf s)
      have HBk := aside hBk
      have HWd : Aside (∀ j, j < 64 → w3.cell? ⟨A, j, none⟩ = some (.int .u32 (B j))) := by rw [hB]; exact fun j hj => HW5.out.low hj (Nat.le_refl _)
      clear hkk hi HW5 hB hBk
      go_loopg [8, 9, 10, 11, 12, 13, 14, 15, 16, 17, 18, 19, 107] 64 (fun g v8 v9 v10 v11 v12 v13 v14 v15 v16 v17 v18 v19 v107 wr => ∃ (t : Nat) (z : S8), v107 = .int .i64 t ∧ t ≤ 64 ∧ 64 - t ≤ g ∧ Aside (z = runTo K B st t) ∧ v8 = .int .u32 z.a ∧ v9 = .int .u32 z.b ∧ v10 = .int .u32 z.c ∧ v11 = .int .u32 z.d ∧ v12 = .int .u32 z.e ∧ v13 = .int .u32 z.f ∧ v14 = .int .u32 z.g ∧ v15 = .int .u32 z.h ∧ Aside (Below w3.heap.size w3 wr))
      case atStart => exact ⟨0, st, rfl, by omega, by omega, rfl, rfl, rfl, rfl, rfl, rfl, rfl, rfl, rfl, Below.refl _ _⟩
      case round =>
        obtain ⟨t, z, rfl, ht, hg, HZ, rfl, rfl, rfl, rfl, rfl, rfl, rfl, rfl, HB6⟩ := hrel
        have HZO : Aside z.ok := by rw [Aside, HZ.out]; exact runTo_ok K B st HST.out t
        by_cases h64 : t < 64
        · skip
          have hz64 : (t : Int) < 64 := by omega
          have hidx := fun W => idx_rounds kk t (K t) h64 (HK.out t h64) W
          have cw := (st_cells (fun j => j < 64) (fun j => ⟨A, j, none⟩) (fun j => .int .u32 (B j)) _ _ HWd.out HB6.out) t h64
          obtain ⟨za, zb, zc, zd, ze, zf, zg, zh⟩ := z
          obtain ⟨k, hk⟩ : ∃ x, x = K t := ⟨_, rfl⟩
          obtain ⟨x, hx⟩ : ∃ x, x = B t := ⟨_, rfl⟩
          have HKt := aside hk
          have HXt := aside hx
          have hrE := rightF_u32 6 11 25 ze
          have hrA := rightF_u32 2 13 22 za
          rw [← hk] at hidx
          rw [← hx] at cw
          simp only
          clear hk hx
          go_wp2_with fail
          go_quiet ((go_at_call 109; exact quiet_eq (right_any _ _ _ _ _ (by simp))))
          have HB7 : Aside (Below w3.heap.size w3 (wr.drewN nq)) := st_new w3 _ _ HB6.out (new_drewN _ _)
          clear HB6 hidx cw
          generalize wr.drewN nq = w4 at HB7 ⊢
          go_wp2_with (go_at_call 109; refine (right_any _ _ _ _ _ (by simp)).mono ?_; rintro e w' ⟨rfl, rfl⟩)
          go_roundg (64 - (t + 1))
          case measure => omega
          case rel =>
            refine ⟨t + 1, step8 ⟨za, zb, zc, zd, ze, zf, zg, zh⟩ k x, by go_num, by omega, by omega, ?_, ?_, rfl, rfl, rfl, ?_, rfl, rfl, rfl, HB7⟩
            · rw [HKt.out, HXt.out, HZ.out]; rfl
            · refine congrArg (Value.int IntKind.u32) ?_
              simp only [step8, one8, two8]
              try omega
            · refine congrArg (Value.int IntKind.u32) ?_
              simp only [step8, one8, two8]
              try omega
        · skip
          have hz64 : ¬ (t : Int) < 64 := by omega
          have HZ64 : Aside (addS st z = blockF K st s) := by
            rw [Aside, HZ.out, HBB.out]
            exact blockF_eq K st s t (by omega)
          clear HZ ht hg h64 HWd HZO HBk HBB HKZ HK HST
          obtain ⟨B6, hB6⟩ : ∃ x, x = w3.heap.size := ⟨_, rfl⟩
          have HA0 : Aside (AddAt b 0 st z wr) := fun j hj => by
            have h1 := HC.out j hj
            have hb := new_trans HB5.out HB6.out
            exact ⟨by rw [hb.cell HBL.out, if_neg (by omega)]; exact h1.1, (hb.frozen HBL.out).trans h1.2⟩
          have HT0 : Aside (TailAt b w wr) := fun j hj => by
            have hb := new_trans HB5.out HB6.out
            exact ⟨hb.cell HBL.out, hb.frozen HBL.out⟩
          have HK0 : Aside (Keeps (· ≠ b) w wr) := keeps_of_new (new_trans HB5.out HB6.out) _
          clear HB5 HB6 hB6
          go_wp2
          go_loopg [20, 21, 163] 8 (fun g v20 v21 v163 wr => ∃ i : Nat, v163 = .int .i64 i ∧ i ≤ 8 ∧ 8 - i ≤ g ∧ Aside (AddAt b i st z wr) ∧ Aside (TailAt b w wr) ∧ Aside (Keeps (· ≠ b) w wr))
          case atStart => exact ⟨0, rfl, by omega, by omega, HA0, HT0, HK0⟩
          case round =>
            clear HA0 HT0 HK0
            obtain ⟨i, rfl, hi, hg, HA, HT, HK9⟩ := hrel
            by_cases h8 : i < 8
            · skip
              have hz8 : (i : Int) < 8 := by omega
              have hzi : (0 : Int) ≤ (i : Int) := by omega
              have hidx := fun W => idx_eight #[.int .u32 z.a, .int .u32 z.b, .int .u32 z.c, .int .u32 z.d, .int .u32 z.e, .int .u32 z.f, .int .u32 z.g, .int .u32 z.h] i (z.get i) h8 (get_lit8 z i h8) W
              have c0 := (HA.out i h8).1
              have f0 := (HA.out i h8).2
              rw [if_neg (by omega)] at c0
              have HG := aside (get_addS st z i h8)
              obtain ⟨y, hy⟩ : ∃ x, x = st.get i := ⟨_, rfl⟩
              obtain ⟨x, hx⟩ : ∃ x, x = z.get i := ⟨_, rfl⟩
              rw [← hy] at c0 HG
              rw [← hx] at hidx HG
              clear hy hx
              go_wp2_with fail
              go_region
              all_goals
                go_wp2
                go_roundg (8 - (i + 1))
                case measure => omega
                case rel =>
                  exact ⟨i + 1, by go_num, by omega, by omega, AddAt.drew (HA.out.step h8 _ (by rw [HG.out]; try rw [IntKind.wrap_u32])), TailAt.drew (HT.out.set h8 _), Keeps.drew (HK9.out.setCell (p := ⟨b, i, none⟩) (.inr (fun h => h rfl)) _)⟩
            · skip
              have hz8 : ¬ (i : Int) < 8 := by omega
              go_wp2
              go_end0
              refine ⟨rfl, HK9.out, fun j hj => ?_, HT.out⟩
              have := HA.out j hj
              rw [if_pos (by omega), HZ64.out] at this
              exact this
end Go.Proofs.YtkpmcjfolncmmaaGreatDoor
