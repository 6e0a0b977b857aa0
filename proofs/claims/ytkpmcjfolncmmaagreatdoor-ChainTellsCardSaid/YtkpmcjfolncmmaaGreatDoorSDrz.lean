/- A row of drafts in memory; what came in, opened. Printed by wip/gen/drz.py. -/
import Derived.Test.YtkpmcjfolncmmaaGreatDoorSDrf1
import Derived.Test.YtkpmcjfolncmmaaGreatDoorSWrk1
import Derived.ProofKit
import Derived.OpenShut
import Derived.ShutString
import Derived.ChangeOld
import Derived.Deep.Slices
set_option linter.all false
namespace Go.Proofs.YtkpmcjfolncmmaaGreatDoor
open Go.RowKit Go.Deep Go.ChangeShapes Go.WideShapes
def DraftsAt (w : World) (v : Value) (n : Nat) : Prop :=
  ∃ (a : Option Addr) (cap : Nat) (dv : Nat → DrV), v = .slice a n cap ∧ n ≤ cap ∧
    (0 < n → ∃ lb lo, a = some ⟨lb, lo, none⟩ ∧ lb < w.heap.size ∧ ∀ j, j < n → w.rangeAt lb (lo + j * 10) (drCells (dv j)).toList) ∧ ∀ j, j < n → DrAt w (dv j)
theorem DraftsAt.on {w w' : World} {v : Value} {n : Nat} (h : DraftsAt w v n) (hb : Below w.heap.size w w') : DraftsAt w' v n := by
  obtain ⟨a, cap, dv, e, hc, h1, h2⟩ := h
  refine ⟨a, cap, dv, e, hc, fun h0 => ?_, fun j hj => (h2 j hj).on hb⟩
  obtain ⟨lb, lo, ea, hl, hj⟩ := h1 h0
  exact ⟨lb, lo, ea, Nat.lt_of_lt_of_le hl hb.size, fun j h3 => rangeAt_on (hj j h3) hl hb⟩
theorem spot_none (w : World) (b o k : Nat) : w.cell? ⟨b, o, some k⟩ = none := by
  unfold World.cell?
  split <;> simp
theorem Tryz.cellsU8 : Tryz.prog.cellsOf 5 = 1 := by kernel_rfl
theorem Tryz.cellsU16 : Tryz.prog.cellsOf 22 = 1 := by kernel_rfl
theorem Tryz.cellsU64 : Tryz.prog.cellsOf 24 = 1 := by kernel_rfl
theorem Tryz.cellsU16s : Tryz.prog.cellsOf 23 = 5 := by kernel_rfl
theorem Tryz.cellsU64s : Tryz.prog.cellsOf 25 = 3 := by kernel_rfl
theorem Tryz.cellsU8s : Tryz.prog.cellsOf 26 = 1 := by kernel_rfl
theorem Tryz.cellsDraft : Tryz.prog.cellsOf 28 = 10 := by kernel_rfl
theorem okWide_array {P : Program} {w : World} {r : Reach} {b0 : Nat} {t e : TypeId} {n : Nat} {v : Value} (ht : P.underlying t = some (.array n e)) (h : Value.okWide P w r b0 t v) : ∃ cs, v = .agg cs := by
  simp only [Value.okWide, ht] at h
  obtain ⟨cs, e, _⟩ := h
  exact ⟨cs, e⟩
section
variable {H : Type} {enc : TypeId × Value → H} {W : World} {base : Nat} {spare : Nat → Bool} {held : Bool}
theorem open_u8 {fuel : Nat} {cs : List Value} {x : DataW H × List MemPlace} (h : DataW.trod enc Tryz.prog W base spare held fuel 5 cs = some x) : ∃ z : Int, cs = [.int .u8 z] ∧ 0 ≤ z ∧ z ≤ 255 := by
  obtain ⟨z, e, _, hw⟩ := DataW.trod_int Tryz.underlying5 h
  simp [Lit.wf, IntKind.min, IntKind.max, IntKind.signed, IntKind.bits] at hw
  exact ⟨z, e, hw⟩
theorem open_u16 {fuel : Nat} {cs : List Value} {x : DataW H × List MemPlace} (h : DataW.trod enc Tryz.prog W base spare held fuel 22 cs = some x) : ∃ z : Int, cs = [.int .u16 z] ∧ 0 ≤ z ∧ z ≤ 65535 := by
  obtain ⟨z, e, _, hw⟩ := DataW.trod_int Tryz.underlying22 h
  simp [Lit.wf, IntKind.min, IntKind.max, IntKind.signed, IntKind.bits] at hw
  exact ⟨z, e, hw⟩
theorem open_u64 {fuel : Nat} {cs : List Value} {x : DataW H × List MemPlace} (h : DataW.trod enc Tryz.prog W base spare held fuel 24 cs = some x) : ∃ z : Int, cs = [.int .u64 z] ∧ 0 ≤ z ∧ z ≤ 18446744073709551615 := by
  obtain ⟨z, e, _, hw⟩ := DataW.trod_int Tryz.underlying24 h
  simp [Lit.wf, IntKind.min, IntKind.max, IntKind.signed, IntKind.bits] at hw
  exact ⟨z, e, hw⟩
theorem addr_block {a : Addr} {i : Nat} {v : Value} (h : W.cell? (a.add i) = some v) (h0 : ∃ u, W.cell? a = some u) : ∃ b o, a = ⟨b, o, none⟩ ∧ b < W.heap.size ∧ ∀ k, a.add k = ⟨b, o + k, none⟩ := by
  obtain ⟨u, hu⟩ := h0
  obtain ⟨b, o, s⟩ := a
  cases s with
  | some k => rw [spot_none] at hu; cases hu
  | none =>
    refine ⟨b, o, rfl, World.block_lt_of_cell? W ⟨b, o, none⟩ hu, fun k => ?_⟩
    unfold Addr.add
    split
    · rename_i hk; subst hk; rfl
    · rfl
theorem open_u8s {fuel : Nat} {cs : List Value} {x : DataW H × List MemPlace} (h : DataW.trod enc Tryz.prog W base spare held fuel 26 cs = some x) :
    ∃ ba nb cb, cs = [.slice ba nb cb] ∧ nb ≤ cb ∧ cb ≤ maxLen ∧ ∃ f : Nat → Int, (∀ j, 0 ≤ f j ∧ f j ≤ 255) ∧ (0 < nb → ∃ lb lo, ba = some ⟨lb, lo, none⟩ ∧ lb < W.heap.size ∧ ∀ j, j < nb → W.cell? ⟨lb, lo + j, none⟩ = some (.int .u8 (f j))) := by
  rcases open_slice Tryz.underlying26 h with ⟨hcs, _⟩ | ⟨a, len, cap, m, n, D, Pl, hcs, _, hl, hm, hmm, _, hx⟩
  · exact ⟨none, 0, 0, hcs, Nat.le_refl _, Nat.zero_le _, fun _ => 0, fun _ => ⟨Int.le_refl 0, (by decide : (0 : Int) ≤ 255)⟩, fun h => absurd h (Nat.lt_irrefl _)⟩
  · have hlm : len ≤ m := by rw [hmm]; split <;> omega
    have each : ∀ i, i < len → ∃ z : Int, W.cell? (a.add i) = some (.int .u8 z) ∧ 0 ≤ z ∧ z ≤ 255 := by
      intro i hi
      obtain ⟨cs', h1, h2⟩ := hx i (by omega)
      obtain ⟨z, rfl, hz⟩ := open_u8 h2
      rw [Tryz.cellsU8] at h1
      obtain ⟨_, _, hcell⟩ := World.cells?_some h1
      have e0 := hcell 0 (by omega)
      rw [add_add, Nat.mul_one, Nat.add_zero] at e0
      exact ⟨z, e0, hz⟩
    obtain ⟨f, hf⟩ := choose_lt each
    refine ⟨some a, len, cap, hcs, hl, hm, fun j => if j < len then f j else 0, fun j => ?_, fun h0 => ?_⟩
    · show 0 ≤ (if j < len then f j else 0) ∧ (if j < len then f j else 0) ≤ 255
      by_cases hj : j < len
      · rw [if_pos hj]; exact (hf j hj).2
      · rw [if_neg hj]; omega
    · obtain ⟨b, o, ea, hb, hadd⟩ := addr_block (hf 0 h0).1 ⟨_, (by have := (hf 0 h0).1; rwa [show a.add 0 = a from rfl] at this)⟩
      refine ⟨b, o, by rw [ea], hb, fun j hj => ?_⟩
      show W.cell? _ = some (.int .u8 (if j < len then f j else 0))
      rw [← hadd j, if_pos hj]
      exact (hf j hj).1
set_option maxRecDepth 100000 in
theorem open_draft {fuel : Nat} {cs : List Value} {x : DataW H × List MemPlace} (h : DataW.trod enc Tryz.prog W base spare held fuel 28 cs = some x) : ∃ d : DrV, cs = (drCells d).toList ∧ DrAt W d := by
  obtain ⟨xs, k, _, _, hlen, hxl, hf⟩ := DataW.trod_struct Tryz.underlying28 h
  rw [Tryz.cellsDraft] at hlen
  have hxl4 : xs.length = 4 := hxl
  have f0 : DataW.trod enc Tryz.prog W base spare held k 5 (List.take (Tryz.prog.cellsOf 5) (List.drop 0 cs)) = xs[0]? := hf 0 _ rfl
  have f1 : DataW.trod enc Tryz.prog W base spare held k 23 (List.take (Tryz.prog.cellsOf 23) (List.drop 1 cs)) = xs[1]? := hf 1 _ rfl
  have f2 : DataW.trod enc Tryz.prog W base spare held k 25 (List.take (Tryz.prog.cellsOf 25) (List.drop 6 cs)) = xs[2]? := hf 2 _ rfl
  have f3 : DataW.trod enc Tryz.prog W base spare held k 26 (List.take (Tryz.prog.cellsOf 26) (List.drop 9 cs)) = xs[3]? := hf 3 _ rfl
  rw [Tryz.cellsU8] at f0
  rw [Tryz.cellsU16s] at f1
  rw [Tryz.cellsU64s] at f2
  rw [Tryz.cellsU8s] at f3
  rw [List.getElem?_eq_getElem (by omega)] at f0 f1 f2 f3
  match cs, hlen with
  | [v0, v1, v2, v3, v4, v5, v6, v7, v8, v9], _ =>
    simp only [List.take, List.drop] at f0 f1 f2 f3
    obtain ⟨z0, e0, r0⟩ := open_u8 f0
    obtain ⟨ys, m1, _, _, _, hys, hy⟩ := DataW.trod_array Tryz.underlying23 f1
    obtain ⟨zs, m2, _, _, _, hzs, hz⟩ := DataW.trod_array Tryz.underlying25 f2
    obtain ⟨ba, nb, cb, e9, hcb, hmx, f, hf1, hf2⟩ := open_u8s f3
    have y0 := hy 0 (by omega)
    have y1 := hy 1 (by omega)
    have y2 := hy 2 (by omega)
    have y3 := hy 3 (by omega)
    have y4 := hy 4 (by omega)
    have g0 := hz 0 (by omega)
    have g1 := hz 1 (by omega)
    have g2 := hz 2 (by omega)
    rw [Tryz.cellsU16, List.getElem?_eq_getElem (by omega)] at y0 y1 y2 y3 y4
    rw [Tryz.cellsU64, List.getElem?_eq_getElem (by omega)] at g0 g1 g2
    obtain ⟨n0, a0, s0⟩ := open_u16 y0
    obtain ⟨n1, a1, s1⟩ := open_u16 y1
    obtain ⟨n2, a2, s2⟩ := open_u16 y2
    obtain ⟨n3, a3, s3⟩ := open_u16 y3
    obtain ⟨n4, a4, s4⟩ := open_u16 y4
    obtain ⟨b0, c0, t0⟩ := open_u64 g0
    obtain ⟨b1, c1, t1⟩ := open_u64 g1
    obtain ⟨b2, c2, t2⟩ := open_u64 g2
    simp [List.take, List.drop] at e0 a0 a1 a2 a3 a4 c0 c1 c2 e9
    subst e0 a0 a1 a2 a3 a4 c0 c1 c2 e9
    exact ⟨⟨z0, n0, n1, n2, n3, n4, b0, b1, b2, ba, nb, cb⟩, rfl, ⟨r0, s0, s1, s2, s3, s4, t0, t1, t2, hcb, by unfold maxLen at hmx; dsimp only; omega, f, hf1, hf2⟩⟩
theorem open_drafts {fuel : Nat} {a0 : Option Addr} {len cap : Nat} {x : DataW H × List MemPlace} (h : DataW.trod enc Tryz.prog W base spare held fuel 47 (Value.slice a0 len cap).cells.toList = some x) :
    DraftsAt W (.slice a0 len cap) len ∧ len ≤ cap ∧ cap ≤ maxLen := by
  rcases open_slice Tryz.underlying47 h with ⟨hcs, _⟩ | ⟨a, len', cap', m, n, D, Pl, hcs, _, hl, hm, hmm, _, hx⟩
  · simp [Value.cells] at hcs
    obtain ⟨rfl, rfl, rfl⟩ := hcs
    exact ⟨⟨none, 0, fun _ => ⟨0, 0, 0, 0, 0, 0, 0, 0, 0, none, 0, 0⟩, rfl, Nat.le_refl _, fun h => by omega, fun j h => by omega⟩, Nat.le_refl _, Nat.zero_le _⟩
  · simp [Value.cells] at hcs
    obtain ⟨rfl, rfl, rfl⟩ := hcs
    have hlm : len ≤ m := by rw [hmm]; split <;> omega
    have each : ∀ i, i < len → ∃ d : DrV, (∀ j v, (drCells d).toList[j]? = some v → W.cell? (a.add (i * 10 + j)) = some v) ∧ DrAt W d := by
      intro i hi
      obtain ⟨cs', h1, h2⟩ := hx i (by omega)
      obtain ⟨d, e, hd⟩ := open_draft h2
      rw [Tryz.cellsDraft] at h1
      obtain ⟨_, hlen, hcell⟩ := World.cells?_some h1
      refine ⟨d, fun j v hv => ?_, hd⟩
      rw [← e] at hv
      have hj : j < 10 := by rw [← hlen]; exact (List.getElem?_eq_some_iff.1 hv).1
      have e0 := hcell j hj
      rw [add_add] at e0
      rw [e0, hv]
    have : Inhabited DrV := ⟨⟨0, 0, 0, 0, 0, 0, 0, 0, 0, none, 0, 0⟩⟩
    obtain ⟨dv, hdv⟩ := choose_lt each
    refine ⟨⟨some a, cap, dv, rfl, hl, fun h0 => ?_, fun j hj => (hdv j hj).2⟩, hl, hm⟩
    have h00 := (hdv 0 h0).1 0 _ rfl
    obtain ⟨b, o, ea, hb, hadd⟩ := addr_block h00 ⟨_, (by rwa [show a.add (0 * 10 + 0) = a from rfl] at h00)⟩
    refine ⟨b, o, by rw [ea], hb, fun j hj i v hv => ?_⟩
    have := (hdv j hj).1 i v hv
    rw [hadd] at this
    rw [Nat.add_assoc]
    exact this
theorem Tryz.cells3U16 : Tryz.prog.cellsOf 29 = 3 := by kernel_rfl
set_option maxRecDepth 100000 in
theorem open_u16s3 {r : Reach} {b0 : Nat} {v : Value} {fuel : Nat} {x : DataW H × List MemPlace} (hval : Value.okWide Tryz.prog W r b0 29 v) (h : DataW.trod enc Tryz.prog W base spare held fuel 29 v.cells.toList = some x) :
    ∃ z0 z1 z2 : Int, v = .agg #[.int .u16 z0, .int .u16 z1, .int .u16 z2] ∧ (0 ≤ z0 ∧ z0 ≤ 65535) ∧ (0 ≤ z1 ∧ z1 ≤ 65535) ∧ (0 ≤ z2 ∧ z2 ≤ 65535) := by
  obtain ⟨⟨cs⟩, rfl⟩ := okWide_array Tryz.underlying29 hval
  obtain ⟨ys, m1, _, _, hlen, hys, hy⟩ := DataW.trod_array Tryz.underlying29 h
  rw [Tryz.cells3U16] at hlen
  have y0 := hy 0 (by omega)
  have y1 := hy 1 (by omega)
  have y2 := hy 2 (by omega)
  rw [Tryz.cellsU16, List.getElem?_eq_getElem (by omega)] at y0 y1 y2
  obtain ⟨n0, a0, s0⟩ := open_u16 y0
  obtain ⟨n1, a1, s1⟩ := open_u16 y1
  obtain ⟨n2, a2, s2⟩ := open_u16 y2
  simp only [Value.cells] at hlen a0 a1 a2
  match cs, hlen with
  | [v0, v1, v2], _ =>
    simp at a0 a1 a2
    subst a0 a1 a2
    exact ⟨n0, n1, n2, rfl, s0, s1, s2⟩
end
end Go.Proofs.YtkpmcjfolncmmaaGreatDoor
