/- vick.Rank, walked. -/
import Derived.Test.YtfnekbfcndkjeaaGreatDoorSSortWalk6
import Derived.Test.YtfnekbfcndkjeaaGreatDoorSSortBlocks
import Derived.Test.YtfnekbfcndkjeaaGreatDoorSVickPlain
set_option linter.all false
namespace Go.Proofs.YtfnekbfcndkjeaaGreatDoor
open Go.RowKit Go.Sort
open Go.Proofs.YtfnekbfcndkjeaaGreatDoor.Srt
variable {α : Type} [Inhabited α]
theorem asideV {p : Prop} (h : p) : Aside p := h
set_option maxHeartbeats 8000000 in
set_option maxRecDepth 100000 in
theorem stable_s {enc : α → Value} {T : α → α → Prop} {ix : α → Nat} {cf : α → α → Int} {g : Nat} {cb : Array Value} (blk off cap n : Nat) (d0 d : Array α) (w0 w : World) (C : CmpOK enc T ix cf g cb blk off d0.size w0) (R : Row1 enc w0 blk off d0) (hs : d0.size = n) (hds : d.size = n) (S : SW enc w0 blk off d w)
    (hsz : n ≤ 140737488355328) (hid : ∀ p, p < n → ix d[p]! = p) :
    Calls Tryz.prog 107 #[.slice (some ⟨blk, off, none⟩) n cap, .int .i64 n, .func (.func g) #[] cb] w fun e w' =>
      e = .returned (.tuple #[]) ∧ Aside (∃ d', d'.size = n ∧ Srt.Good T ix d' 0 n ∧ SW enc w0 blk off d' w') := by
  have S0 : Aside (SW enc w0 blk off d w) := S
  have HC : Aside _ := C
  have HI : Aside _ := hid
  have HD : Aside (d.size = n) := hds
  have HS : Aside (d0.size = n) := hs
  have SYM : Aside _ := symMerge_s blk off cap n d0 w0 C R hs hsz n
  clear C S hid hds hs
  go_enter Tryz.func107, Tryz.ntmps107
  go_wp2
  go_loopg [7, 8] n (fun g1 va vb wr => ∃ (q a b : Nat) (dk : Array α), va = .int .i64 a ∧ vb = .int .i64 b ∧ Aside (a = 20 * q) ∧ b ≤ a + 20 ∧ a + 20 ≤ b ∧ a ≤ n ∧ n - a ≤ g1 ∧ Aside (dk.size = n) ∧
    Aside (∀ k, k < q → Srt.Good T ix dk (20 * k) (20 * k + 20)) ∧ Aside (∀ p, a ≤ p → p < n → ix dk[p]! = p) ∧ Aside (SW enc w0 blk off dk wr))
  case atStart => exact ⟨0, 0, 20, d, rfl, rfl, rfl, by omega, by omega, by omega, by omega, HD, fun k hk => by omega, fun p _ h => HI.out p h, S0⟩
  case round =>
    clear S0
    obtain ⟨q, a, b, dk, rfl, rfl, HQ, b1, b2, b3, hg, HK, HG, HP, S1⟩ := hrel
    by_cases hlt : b ≤ n
    · as_aux_lemma =>
      have hltz : (b : Int) ≤ (n : Int) := by omega
      go_wp2_with fail
      have hin := insertion_s blk off cap a b d0 dk w0 wr HC.out R (HS.out.trans HK.out.symm) S1.out (by omega) (by rw [HK.out]; exact hlt) (by rw [HK.out]; exact hsz) (fun p q h1 h2 h3 => (own_of_same (a := a) (b := b) (fun p h1 h2 => HP.out p h1 (by omega))).2 p q h1 h2 h3)
      rw [HK.out] at hin
      refine hin.mono ?_
      rintro e' w' ⟨rfl, hq⟩
      clear S1 hin
      go_wp2
      obtain ⟨d', hm, S2⟩ := hq.out
      go_roundg (n - b)
      case measure => omega
      case rel =>
        have hba : b = a + 20 := by omega
        refine ⟨q + 1, b, b + 20, d', rfl, by go_num, ?_, by omega, by omega, hlt, Nat.le_refl _, hm.size.trans HK.out, fun k hk => ?_, fun p h1 h2 => ?_, S2⟩
        · show b = 20 * (q + 1)
          have := HQ.out; omega
        · have h := HQ.out
          by_cases c : k = q
          · subst c
            rw [← h, ← hba]
            exact Srt.Good.merged (own_of_same (fun p h1 h2 => HP.out p h1 (by omega))).1 hm
          · exact (HG.out k (by omega)).kept hm (Or.inl (by omega))
        · rw [hm.out p (Or.inr h1)]
          exact HP.out p (by omega) h2
    · as_aux_lemma =>
      have hltz : ¬ (b : Int) ≤ (n : Int) := by omega
      go_wp2_with fail
      have hin := insertion_s blk off cap a n d0 dk w0 wr HC.out R (HS.out.trans HK.out.symm) S1.out b3 (by rw [HK.out]; exact Nat.le_refl _) (by rw [HK.out]; exact hsz) (fun p q h1 h2 h3 => (own_of_same (a := a) (b := n) (fun p h1 h2 => HP.out p h1 h2)).2 p q h1 h2 h3)
      rw [HK.out] at hin
      refine hin.mono ?_
      rintro e' w' ⟨rfl, hq⟩
      clear S1 hin
      obtain ⟨d1, hm, S2⟩ := hq.out
      have HK1 : Aside (d1.size = n) := hm.size.trans HK.out
      have HB : Aside (Blocks T ix d1 20 n) := by
        have h := HQ.out
        refine Blocks.of20 (q := q) (fun k hk => (HG.out k hk).kept hm (Or.inl (by omega))) (by omega) (by omega) ?_
        rw [← h]
        exact Srt.Good.merged (own_of_same (fun p h1 h2 => HP.out p h1 h2)).1 hm
      have S3 : Aside _ := S2
      clear HK HG HP HQ hq hm S2
      go_wp2
      go_loopg [6] n (fun g1 vs wr => ∃ (bs : Nat) (dk : Array α), vs = .int .i64 bs ∧ 1 ≤ bs ∧ bs ≤ 281474976710676 ∧ n - bs ≤ g1 ∧ Aside (dk.size = n) ∧ Aside (Blocks T ix dk bs n) ∧ Aside (SW enc w0 blk off dk wr))
      case atStart => exact ⟨20, d1, rfl, by omega, by omega, by omega, HK1, HB, S3⟩
      case round =>
        clear HK1 HB S3
        obtain ⟨bs, dk, rfl, hb1, hb2, hg2, HK, HB, S1⟩ := hrel
        by_cases hlt2 : bs < n
        · have hltz2 : (bs : Int) < (n : Int) := by omega
          go_wp2
          go_loopg [7, 8] n (fun g3 va vb wr2 => ∃ (q a b : Nat) (dj : Array α), va = .int .i64 a ∧ vb = .int .i64 b ∧ Aside (a = q * (2 * bs)) ∧ b ≤ a + 2 * bs ∧ a + 2 * bs ≤ b ∧ a ≤ n ∧ n - a ≤ g3 ∧ Aside (dj.size = n) ∧ Aside (Pairs T ix dj bs n q) ∧ Aside (SW enc w0 blk off dj wr2))
          case atStart => exact ⟨0, 0, 2 * bs, dk, rfl, by go_num, (Nat.zero_mul _).symm, by omega, by omega, by omega, by omega, HK, Pairs.start HB.out, S1⟩
          case round =>
            clear HK HB S1
            obtain ⟨q, a, b, dj, rfl, rfl, HQ, c1, c2, c3, hg3, HK, HP, S1⟩ := hrel
            by_cases hlt3 : b ≤ n
            · as_aux_lemma =>
              have hltz3 : (b : Int) ≤ (n : Int) := by omega
              go_wp2_with fail
              have hba : b = a + 2 * bs := by omega
              have hH : Halves T ix dj a (a + bs) b := by
                have g1 := HP.out.first HQ.out (by omega)
                have g2 := HP.out.second HQ.out
                rw [Nat.min_eq_left (by omega), ← hba] at g2
                exact g1.halves g2
              have hca := SYM.out a (a + bs) b dj wr (by omega) HK.out S1.out (by omega) (by omega) hlt3 hH
              rw [show ((a + bs : Nat) : Int) = (a : Int) + (bs : Int) by omega] at hca
              refine hca.mono ?_
              rintro e' w' ⟨rfl, hq⟩
              clear S1 hca
              have HBA : Aside _ := hba
              clear hba
              go_wp2
              obtain ⟨d', hm, S2⟩ := hq.out
              go_roundg (n - b)
              case measure => omega
              case rel =>
                refine ⟨q + 1, b, b + 2 * bs, d', rfl, by go_num, ?_, by omega, by omega, hlt3, Nat.le_refl _, hm.size.trans HK.out, ?_, S2⟩
                · show b = (q + 1) * (2 * bs)
                  rw [HBA.out, HQ.out]
                  exact (Nat.succ_mul _ _).symm
                · rw [HBA.out] at hm
                  exact HP.out.step HQ.out (by omega) hm
            · as_aux_lemma =>
              have hltz3 : ¬ (b : Int) ≤ (n : Int) := by omega
              by_cases hlt4 : a + bs < n
              · have hltz4 : (a : Int) + (bs : Int) < (n : Int) := by omega
                go_wp2_with fail
                have hH : Halves T ix dj a (a + bs) n := by
                  have g1 := HP.out.first HQ.out (by omega)
                  have g2 := HP.out.second HQ.out
                  rw [Nat.min_eq_right (by omega)] at g2
                  exact g1.halves g2
                have hca := SYM.out a (a + bs) n dj wr (by omega) HK.out S1.out (by omega) hlt4 (Nat.le_refl _) hH
                rw [show ((a + bs : Nat) : Int) = (a : Int) + (bs : Int) by omega] at hca
                refine hca.mono ?_
                rintro e' w' ⟨rfl, hq⟩
                clear S1 hca
                go_wp2
                obtain ⟨d', hm, S2⟩ := hq.out
                go_roundg (n - 2 * bs)
                case measure => omega
                case rel => exact ⟨2 * bs, d', by first | go_num | (congr 1; omega), by omega, by omega, Nat.le_refl _, hm.size.trans HK.out, HP.out.finish HQ.out (by omega) hlt4 hm, S2⟩
              · have hltz4 : ¬ (a : Int) + (bs : Int) < (n : Int) := by omega
                go_wp2
                go_roundg (n - 2 * bs)
                case measure => omega
                case rel => exact ⟨2 * bs, dj, by first | go_num | (congr 1; omega), by omega, by omega, Nat.le_refl _, HK, HP.out.finish_none HQ.out (by omega) c3 (by omega), S1⟩
        · have hltz2 : ¬ (bs : Int) < (n : Int) := by omega
          go_wp2
          go_end0
          exact ⟨rfl, dk, HK.out, HB.out.all (by omega), S1.out⟩
set_option maxHeartbeats 1000000 in
theorem sortStable_s {enc : α → Value} {T : α → α → Prop} {ix : α → Nat} {cf : α → α → Int} {g : Nat} {cb : Array Value} (blk off cap n : Nat) (d : Array α) (w : World) (C : CmpOK enc T ix cf g cb blk off d.size w) (R : Row1 enc w blk off d) (hds : d.size = n)
    (hsz : n ≤ 140737488355328) (hid : ∀ p, p < n → ix d[p]! = p) :
    Calls Tryz.prog 78 #[.slice (some ⟨blk, off, none⟩) n cap, .func (.func g) #[] cb] w fun e w' =>
      e = .returned (.tuple #[]) ∧ Aside (∃ d', d'.size = n ∧ Srt.Good T ix d' 0 n ∧ SW enc w blk off d' w') := by
  have H := stable_s blk off cap n d d w w C R hds hds (SW.start R.hH) hsz hid
  have HH := asideV H
  clear H C R hid hds
  go_enter Tryz.func78, Tryz.ntmps78
  go_wp2_with fail
  refine HH.out.mono ?_
  rintro e' w' ⟨rfl, hq⟩
  go_wp2
  go_end0
  exact ⟨rfl, hq⟩
end Go.Proofs.YtfnekbfcndkjeaaGreatDoor
namespace Go.Proofs.YtfnekbfcndkjeaaGreatDoor
open Go.RowKit Go.Sort
open Go.Proofs.YtfnekbfcndkjeaaGreatDoor.Srt Go.Proofs.YtfnekbfcndkjeaaGreatDoor.Vk
def BidsAt (w : World) (v : Value) (bs : List Bd) : Prop :=
  ((v = .slice none 0 0 ∨ ∃ a cap, v = .slice (some a) 0 cap) ∧ bs = []) ∨ ∃ lb lo cap, v = .slice (some ⟨lb, lo, none⟩) bs.length cap ∧ (0 < bs.length → lb < w.heap.size) ∧
    ∀ j, j < bs.length → w.cell? ⟨lb, lo + j * 2, none⟩ = some (.int .i64 bs[j]!.1) ∧ w.cell? ⟨lb, lo + j * 2 + 1, none⟩ = some (.int .u64 bs[j]!.2)
theorem BidsAt.below {w w' : World} {v : Value} {bs : List Bd} (h : BidsAt w v bs) (hb : Below w.heap.size w w') : BidsAt w' v bs := by
  rcases h with h | ⟨lb, lo, cap, h1, h2, h3⟩
  · exact .inl h
  · exact .inr ⟨lb, lo, cap, h1, fun h => Nat.lt_of_lt_of_le (h2 h) hb.size, fun j hj => ⟨(hb.cell (p := ⟨lb, _, none⟩) (h2 (by omega))).trans (h3 j hj).1, (hb.cell (p := ⟨lb, _, none⟩) (h2 (by omega))).trans (h3 j hj).2⟩⟩
def PlacesAt (w : World) (w' : World) (r : List Nat) (v : Value) : Prop :=
  ∃ b, v = .slice (some ⟨b, 0, none⟩) r.length r.length ∧ w.heap.size ≤ b ∧ b < w'.heap.size ∧ ∀ p, p < r.length → w'.cell? ⟨b, p, none⟩ = some (.int .i64 (r[p]! : Int)) ∧ w'.frozen? ⟨b, p, none⟩ = false
def zeroRow (n : Nat) : Array Value := madeCells #[.int .i64 0] n
theorem get_zeroRow (n j : Nat) (h : j < n) : (zeroRow n)[j]? = some (.int .i64 0) := by
  unfold zeroRow madeCells
  rw [Array.getElem?_map, Array.getElem?_range, if_pos h]
  simp [Nat.mod_one]
theorem Tryz.infoIntV : (Tryz.prog.info? 3).map (fun i => (i.zero, i.size, i.bytes)) = some (some (.int .i64 0), 1, 8) := by kernel_rfl
theorem make_ints (n : Nat) (w : World) (hn : n ≤ 17592186044416) : (Instr.makeSlice 41 (.int .i64 (n : Int)) (.int .i64 (n : Int))).run Tryz.prog w = .ok (.slice (some ⟨w.heap.size, 0, none⟩) n n) (w.alloc (.cells (zeroRow n) 3)) := by
  obtain ⟨i0, hi, hz0, hz1, hz2⟩ := info_parts Tryz.infoIntV
  have := run_make (P := Tryz.prog) w 41 3 i0 (.int .i64 0) Tryz.underlying41 hi hz0 .i64 .i64 n n (by omega) (by omega) (by rw [hz2]; omega) (by omega)
  rw [hz1] at this
  simpa [zeroRow, Value.cells] using this
structure FillInv (w : World) (v : Value) (n k : Nat) (wr : World) : Prop where
  size : wr.heap.size = w.heap.size + 2
  below : Below w.heap.size w wr
  box : wr.cell? ⟨w.heap.size, 0, none⟩ = some v
  row : ∀ j, j < n → wr.cell? ⟨w.heap.size + 1, j, none⟩ = some (.int .i64 (if j < k then (j : Int) else 0)) ∧ wr.frozen? ⟨w.heap.size + 1, j, none⟩ = false
theorem heap_two (w : World) (a b : Obj) : ((w.alloc a).alloc b).heap[w.heap.size]? = some a ∧ ((w.alloc a).alloc b).heap[w.heap.size + 1]? = some b := by
  constructor
  · show ((w.heap.push a).push b)[w.heap.size]? = some a
    simp [Array.getElem?_push]
  · show ((w.heap.push a).push b)[w.heap.size + 1]? = some b
    rw [Array.getElem?_push, Array.size_push, if_pos rfl]
theorem cell_of_heap {w : World} {b : Nat} {cs : Array Value} {t : TypeId} {fz : Nat × Nat} (h : w.heap[b]? = some (.cells cs t fz)) (j : Nat) : w.cell? ⟨b, j, none⟩ = cs[j]? := by
  simp [World.cell?, h]
theorem frozen_of_heap {w : World} {b : Nat} {cs : Array Value} {t : TypeId} (h : w.heap[b]? = some (.cells cs t (0, 0))) (j : Nat) : w.frozen? ⟨b, j, none⟩ = false := by
  simp [World.frozen?, h]
theorem FillInv.start (w : World) (v : Value) (n : Nat) : FillInv w v n 0 ((w.alloc (.cells #[v] 51)).alloc (.cells (zeroRow n) 3)) := by
  obtain ⟨h1, h2⟩ := heap_two w (.cells #[v] 51) (.cells (zeroRow n) 3)
  refine ⟨by simp, ((Below.refl _ w).alloc (Nat.le_refl _) _).alloc (by simp) _, by rw [cell_of_heap h1]; rfl, fun j hj => ⟨?_, frozen_of_heap h2 j⟩⟩
  rw [cell_of_heap h2, if_neg (by omega)]
  exact get_zeroRow n j hj
theorem FillInv.step {w wr : World} {v : Value} {n k : Nat} (h : FillInv w v n k wr) (hk : k < n) : FillInv w v n (k + 1) (wr.setCell ⟨w.heap.size + 1, k, none⟩ (.int .i64 (k : Int))) := by
  refine ⟨by simpa [World.setCell] using h.size, h.below.setCell (p := ⟨w.heap.size + 1, k, none⟩) (by simp) _, ?_, fun j hj => ⟨?_, by rw [World.frozen?_setCell]; exact (h.row j hj).2⟩⟩
  · rw [World.cell?_setCell_other _ _ _ _ (by intro e; simp only [Addr.mk.injEq] at e; omega)]; exact h.box
  · by_cases c : j = k
    · subst c
      rw [World.cell?_setCell_same _ _ _ (h.row j hj).1, if_pos (by omega)]
    · rw [World.cell?_setCell_other _ _ _ _ (by intro e; simp only [Addr.mk.injEq] at e; omega), (h.row j hj).1]
      by_cases c2 : j < k
      · rw [if_pos c2, if_pos (by omega)]
      · rw [if_neg c2, if_neg (by omega)]
end Go.Proofs.YtfnekbfcndkjeaaGreatDoor
namespace Go.Proofs.YtfnekbfcndkjeaaGreatDoor
open Go.RowKit Go.Sort
open Go.Proofs.YtfnekbfcndkjeaaGreatDoor.Srt Go.Proofs.YtfnekbfcndkjeaaGreatDoor.Vk
def encP {m : Nat} (x : Fin (m + 1)) : Value := .int .i64 ((x.val : Nat) : Int)
def places (m : Nat) : Array (Fin (m + 1)) := Array.ofFn (fun x => x)
theorem size_places (m : Nat) : (places m).size = m + 1 := Array.size_ofFn
theorem get_places (m p : Nat) (h : p < m + 1) : ((places m)[p]!).val = p := by
  rw [getElem!_pos _ p (by rw [size_places]; exact h)]
  simp [places]
def cmpP (bs : List Bd) {m : Nat} (x y : Fin (m + 1)) : Int := bidCmp bs[x.val]! bs[y.val]!
theorem cmpP_yes (bs : List Bd) {m : Nat} (x y : Fin (m + 1)) (h : x.val < y.val) : cmpP bs y x < 0 ↔ Vk.ahead bs y.val x.val :=
  ahead_of bs h _ (by unfold cmpP bidCmp orOf cmpOf; rfl)
theorem sortWorld_other {α : Type} [Inhabited α] (enc : α → Value) (w : World) (blk off m : Nat) (dk : Array α) (os : Array Obj) (a : Addr) (h1 : a.block ≠ blk) (h2 : a.block < w.heap.size) :
    (sortWorld enc w blk off m dk os).cell? a = w.cell? a := by
  unfold sortWorld
  rw [cell?_grow _ _ _ (by rw [size_putRow]; exact h2), cell?_putRow_other _ _ _ _ _ _ (Or.inl h1)]
  rfl
theorem sortWorld_below {α : Type} [Inhabited α] (enc : α → Value) (w : World) (blk off m : Nat) (dk : Array α) (os : Array Obj) (B : Nat) (hB : B ≤ w.heap.size) (hb : B ≤ blk) : Below B w (sortWorld enc w blk off m dk os) := by
  refine ⟨rfl, rfl, rfl, ?_, fun k hk => ?_⟩
  · unfold sortWorld; rw [size_grow, size_putRow]; exact Nat.le_add_right _ _
  · unfold sortWorld
    rw [heap_grow_old _ _ (by rw [size_putRow]; show k < w.heap.size; omega)]
    show (w.heap.modify blk _)[k]? = _
    rw [Array.getElem?_modify, if_neg (by omega)]
theorem cmpOK_rank (bs : List Bd) (m B lb lo cap blk : Nat) (wS : World) (hm : bs.length = m + 1) (hBne : B ≠ blk) (hlne : lb ≠ blk) (hBl : B < wS.heap.size) (hll : lb < wS.heap.size)
    (hB : wS.cell? ⟨B, 0, none⟩ = some (.slice (some ⟨lb, lo, none⟩) bs.length cap))
    (hl : ∀ j, j < bs.length → wS.cell? ⟨lb, lo + j * 2, none⟩ = some (.int .i64 bs[j]!.1) ∧ wS.cell? ⟨lb, lo + j * 2 + 1, none⟩ = some (.int .u64 bs[j]!.2)) :
    CmpOK (encP (m := m)) (fun x y => Vk.ahead bs x.val y.val) (fun x => x.val) (cmpP bs) 79 #[.pointer (some ⟨B, 0, none⟩)] blk 0 (places m).size wS where
  eg := enters_of Tryz.func79 (by kernel_rfl) rfl
  hc := by
    intro q os dk _ x y
    have hx : x.val < bs.length := by have := x.isLt; omega
    have hy : y.val < bs.length := by have := y.isLt; omega
    have k := fun (a : Addr) (h1 : a.block ≠ blk) (h2 : a.block < wS.heap.size) => sortWorld_other (encP (m := m)) wS blk 0 q dk os a h1 h2
    exact rankCmp x.val y.val B lb lo bs.length cap _ _ _ _ _ hx hy ((k _ hBne hBl).trans hB) ((k _ hlne hll).trans (hl _ hx).1) ((k _ hlne hll).trans (hl _ hx).2) ((k _ hlne hll).trans (hl _ hy).1) ((k _ hlne hll).trans (hl _ hy).2)
  ord := ⟨fun x y z h1 h2 => ahead_trans bs h1 h2, fun x y h => ahead_tot bs (Nat.ne_of_lt h)⟩
  yes := fun x y h => cmpP_yes bs x y h
def RankPost (bs : List Bd) (w : World) (e : Ending) (w' : World) : Prop := ∃ v, e = .returned v ∧ PlacesAt w w' (rankOf bs) v ∧ Below w.heap.size w w'
set_option maxHeartbeats 4000000 in
set_option maxRecDepth 100000 in
theorem rank_some (bs : List Bd) (m lb lo cap : Nat) (w : World) (hm : bs.length = m + 1) (hn : bs.length ≤ 17592186044416) (hll : lb < w.heap.size)
    (hl : ∀ j, j < bs.length → w.cell? ⟨lb, lo + j * 2, none⟩ = some (.int .i64 bs[j]!.1) ∧ w.cell? ⟨lb, lo + j * 2 + 1, none⟩ = some (.int .u64 bs[j]!.2)) :
    Calls Tryz.prog 47 #[.slice (some ⟨lb, lo, none⟩) bs.length cap] w (RankPost bs w) := by
  obtain ⟨n, hnn⟩ : ∃ n, n = bs.length := ⟨_, rfl⟩
  have HN : Aside (n = bs.length) := hnn
  have HM : Aside (bs.length = m + 1) := hm
  have HL : Aside _ := hl
  rw [← hnn] at hn ⊢
  have hn1 : 1 ≤ n := by omega
  clear hl hm hnn
  have hmk := fun W => make_ints n W hn
  go_enter Tryz.func47, Tryz.ntmps47
  go_wp2
  clear hmk
  go_loopg [10] n (fun g vi wr => ∃ k : Nat, vi = .int .i64 k ∧ k ≤ n ∧ n - k ≤ g ∧ Aside (FillInv w (.slice (some ⟨lb, lo, none⟩) n cap) n k wr))
  case atStart => exact ⟨0, rfl, by omega, by omega, FillInv.start _ _ _⟩
  case round =>
    obtain ⟨k, rfl, hk, hg, HF⟩ := hrel
    by_cases hlt : k < n
    · have hltz : (k : Int) < (n : Int) := by omega
      have c := (HF.out.row k hlt).1
      have f := (HF.out.row k hlt).2
      obtain ⟨old, hold⟩ : ∃ old, old = (Value.int .i64 (if k < k then (k : Int) else 0)) := ⟨_, rfl⟩
      rw [← hold] at c
      clear hold
      have S : Aside _ := HF.out.step hlt
      clear HF
      go_wp2
      go_roundg (n - (k + 1))
      case measure => omega
      case rel => exact ⟨k + 1, by go_num, by omega, by omega, S⟩
    · have hltz : ¬ (k : Int) < (n : Int) := by omega
      obtain rfl : k = n := by omega
      go_wp2_with fail
      have F := HF.out
      have hs1 : (places m).size = k := by rw [size_places, HN.out, HM.out]
      have hHo : Holds (encP (m := m)) wr (w.heap.size + 1) 0 (places m) := fun j hj => by
        have hj' : j < k := by rw [← hs1]; exact hj
        rw [Nat.zero_add]
        refine ⟨?_, (F.row j hj').2⟩
        rw [(F.row j hj').1, if_pos hj', encP, get_places m j (by rw [← size_places]; exact hj)]
      have hR : Row1 (encP (m := m)) wr (w.heap.size + 1) 0 (places m) := ⟨fun _ => rfl, hHo, by rw [F.size]; omega⟩
      have hC := cmpOK_rank bs m w.heap.size lb lo cap (w.heap.size + 1) wr HM.out (by omega) (by omega) (by rw [F.size]; omega) (by rw [F.size]; omega) (by rw [← HN.out]; exact F.box)
        (fun j hj => ⟨(F.below.cell (p := ⟨lb, _, none⟩) hll).trans (HL.out j hj).1, (F.below.cell (p := ⟨lb, _, none⟩) hll).trans (HL.out j hj).2⟩)
      refine (sortStable_s (w.heap.size + 1) 0 k k (places m) wr hC hR hs1 (by omega) (fun p hp => get_places m p (by rw [← size_places, hs1]; exact hp))).mono ?_
      rintro e w' ⟨rfl, hq⟩
      have HH : Aside _ := hHo
      have HS1 : Aside _ := hs1
      clear hC hR hHo hs1
      have HW : Aside (w.heap.size + 1 < wr.heap.size) := by rw [Aside, F.size]; omega
      have HB : Aside (Below w.heap.size w wr) := F.below
      clear F HF
      go_wp2
      go_ret
      obtain ⟨d', hd1, hd2, n', os', rfl⟩ := hq.out
      have hr : (List.range bs.length).map (fun p => (d'[p]!).val) = rankOf bs := rank_of_cells bs _
        (fun p q h1 h2 => hd2.srt p q (Nat.zero_le _) h1 (by rw [HN.out]; exact h2))
        (fun p hp => by have := (d'[p]!).isLt; rw [HM.out]; exact this)
      refine ⟨.slice (some ⟨w.heap.size + 1, 0, none⟩) k k, rfl, ⟨w.heap.size + 1, ?_, by omega, ?_, fun p hp => ?_⟩, HB.out.trans (sortWorld_below _ _ _ _ _ _ _ _ (by have := HW.out; omega) (by omega))⟩
      · rw [length_rankOf, HN.out]
      · exact lt_sortWorld _ _ _ _ _ _ _ HW.out
      · have hp' : p < k := by rw [length_rankOf, ← HN.out] at hp; exact hp
        have hh := holds_sortWorld (encP (m := m)) wr (w.heap.size + 1) 0 n' (places m) d' os' HW.out HH.out (hd1.trans HS1.out.symm) p (by rw [hd1]; exact hp')
        rw [Nat.zero_add] at hh
        refine ⟨?_, hh.2⟩
        rw [hh.1, ← hr, encP]
        rw [getElem!_pos ((List.range bs.length).map _) p (by rw [List.length_map, List.length_range, ← HN.out]; exact hp')]
        simp
theorem sortStable_none (b : Option Addr) (cap : Nat) (fv : Value) (w : World) :
    Calls Tryz.prog 78 #[.slice b 0 cap, fv] w fun e w' => e = .returned (.tuple #[]) ∧ w = w' := by
  have hins : ∀ w, Calls Tryz.prog 124 #[.slice b 0 cap, .int .i64 0, .int .i64 0, fv] w fun e w' => e = .returned (.tuple #[]) ∧ w = w' := fun w => by
    go_enter Tryz.func124, Tryz.ntmps124
    go_wp2
    refine wp_loop_rounds 1 ?_
    rw [rounds_succ]
    go_wp2
    go_end0
    exact ⟨rfl, rfl⟩
  have hst : ∀ w, Calls Tryz.prog 107 #[.slice b 0 cap, .int .i64 0, fv] w fun e w' => e = .returned (.tuple #[]) ∧ w = w' := fun w => by
    go_enter Tryz.func107, Tryz.ntmps107
    go_wp2
    refine wp_loop_rounds 1 ?_
    rw [rounds_succ]
    go_wp2_with (go_at_call 124; refine (hins _).mono ?_; rintro e w' ⟨rfl, rfl⟩)
    refine wp_loop_rounds 1 ?_
    rw [rounds_succ]
    go_wp2
    go_end0
    exact ⟨rfl, rfl⟩
  clear hins
  go_enter Tryz.func78, Tryz.ntmps78
  go_wp2_with (go_at_call 107; refine (hst _).mono ?_; rintro e w' ⟨rfl, rfl⟩)
  go_end0
  exact ⟨rfl, rfl⟩
set_option maxHeartbeats 1000000 in
set_option maxRecDepth 100000 in
theorem rank_none (b : Option Addr) (cap : Nat) (w : World) :
    Calls Tryz.prog 47 #[.slice b 0 cap] w (RankPost [] w) := by
  have hmk : ∀ W : World, (Instr.makeSlice 41 (.int .i64 0) (.int .i64 0)).run Tryz.prog W = .ok (.slice (some ⟨W.heap.size, 0, none⟩) 0 0) (W.alloc (.cells (zeroRow 0) 3)) := fun W => make_ints 0 W (by omega)
  go_enter Tryz.func47, Tryz.ntmps47
  go_wp2
  clear hmk
  refine wp_loop_rounds 1 ?_
  rw [rounds_succ]
  go_wp2_with (go_at_call 78; refine (sortStable_none _ _ _ _).mono ?_; rintro e w' ⟨rfl, rfl⟩)
  go_ret
  refine ⟨.slice (some ⟨w.heap.size + 1, 0, none⟩) 0 0, rfl, ⟨w.heap.size + 1, rfl, by omega, by simp, fun p hp => by simp [length_rankOf] at hp⟩, ((Below.refl _ w).alloc (Nat.le_refl _) _).alloc (by simp) _⟩
theorem rank_any (bs : List Bd) (v : Value) (w : World) (hv : BidsAt w v bs) (hn : bs.length ≤ 17592186044416) : Calls Tryz.prog 47 #[v] w (RankPost bs w) := by
  rcases hv with ⟨rfl | ⟨a, cap, rfl⟩, rfl⟩ | ⟨lb, lo, cap, rfl, hll, hl⟩
  · exact rank_none _ _ _
  · exact rank_none _ _ _
  · cases bs with
    | nil => exact rank_none _ _ _
    | cons x l => exact rank_some (x :: l) l.length lb lo cap w rfl hn (hll (by simp)) hl
end Go.Proofs.YtfnekbfcndkjeaaGreatDoor
