/- Arguments opened, with their bounds: bids, and an array of two uint64. -/
import Derived.Test.YtdgedckfaefohaaOpenBids
namespace Go.Proofs.Ytdgedckfaefohaa
open Go.RowKit Go.Sort Go.Deep Go.ChangeShapes Go.WideShapes
open Go.Proofs.Ytdgedckfaefohaa.Vk

theorem wf_u64 {n : Int} (h : (Lit.int .u64 n).wf = true) : 0 ≤ n ∧ n ≤ 18446744073709551615 := by
  simp [Lit.wf, IntKind.min, IntKind.max, IntKind.signed, IntKind.bits] at h
  omega

theorem wf_u8 {n : Int} (h : (Lit.int .u8 n).wf = true) : 0 ≤ n ∧ n ≤ 255 := by
  simp [Lit.wf, IntKind.min, IntKind.max, IntKind.signed, IntKind.bits] at h
  omega

theorem open_bids_wf {H : Type} {enc : TypeId × Value → H} {W : World} {base : Nat} {spare : Nat → Bool} {held : Bool} {fuel : Nat} {a0 : Option Addr} {len cap : Nat} {x : DataW H × List MemPlace}
    (h : DataW.trod enc Try.prog W base spare held fuel 22 (Value.slice a0 len cap).cells.toList = some x) :
    ∃ bs, BidsAt W (.slice a0 len cap) bs ∧ len ≤ cap ∧ bs.length = len ∧ cap ≤ maxLen ∧ (∀ b ∈ bs, 0 ≤ b.2 ∧ b.2 ≤ 18446744073709551615) := by
  rcases open_slice_pairs Try.underlying22 Try.underlying32 Try.structBid rfl rfl (by kernel_rfl) (by kernel_rfl) h with ⟨hcs, _⟩ | ⟨a, len', cap', m, n, V0, V1, D0, D1, P0, P1, hcs, _, hl, hm, hmm, _, hx⟩
  · simp [Value.cells] at hcs
    obtain ⟨rfl, rfl, rfl⟩ := hcs
    exact ⟨[], .inl ⟨.inl rfl, rfl⟩, Nat.le_refl _, rfl, by unfold maxLen; omega, by simp⟩
  · simp [Value.cells] at hcs
    obtain ⟨rfl, rfl, rfl⟩ := hcs
    have hlm : len ≤ m := by rw [hmm]; split <;> omega
    have e0 : ∀ i, i < len → ∃ z, V0 i = .int .i64 z := fun i hi => by
      obtain ⟨z, hz, _⟩ := DataW.trod_int Try.underlying3 (hx i (by omega)).2.2.1
      exact ⟨z, by simpa using hz⟩
    have e1 : ∀ i, i < len → ∃ z, V1 i = .int .u64 z ∧ 0 ≤ z ∧ z ≤ 18446744073709551615 := fun i hi => by
      obtain ⟨z, hz, _, hw⟩ := DataW.trod_int Try.underlying23 (hx i (by omega)).2.2.2
      exact ⟨z, by simpa using hz, wf_u64 hw⟩
    have hlen : ((List.range len).map fun i => ((intOf (V0 i), intOf (V1 i)) : Bd)).length = len := by simp
    have hget : ∀ j, j < len → ((List.range len).map fun i => ((intOf (V0 i), intOf (V1 i)) : Bd))[j]! = (intOf (V0 j), intOf (V1 j)) := fun j hj => by
      rw [getElem!_pos _ j (by omega)]
      simp
    by_cases h0 : len = 0
    · subst h0
      exact ⟨[], .inl ⟨.inr ⟨_, _, rfl⟩, rfl⟩, hl, rfl, hm, by simp⟩
    · obtain ⟨b, o, s⟩ := a
      have hc := (hx 0 (by omega)).1
      have hs : s = none := by
        cases s with
        | none => rfl
        | some k => rw [show 0 * 2 = 0 from rfl, show (⟨b, o, some k⟩ : Addr).add 0 = ⟨b, o, some k⟩ from rfl, spot_none] at hc; simp at hc
      subst hs
      have hb : b < W.heap.size := World.block_lt_of_cell? W ⟨b, o, none⟩ hc
      have hadd : ∀ k, (⟨b, o, none⟩ : Addr).add k = ⟨b, o + k, none⟩ := fun k => by
        unfold Addr.add
        split
        · rename_i hk; subst hk; rfl
        · rfl
      refine ⟨_, .inr ⟨b, o, cap, by rw [hlen], fun _ => hb, fun j hj => ?_⟩, hl, hlen, hm, fun u hu => by
        obtain ⟨i, hi, rfl⟩ := List.mem_map.1 hu
        obtain ⟨z, hz, h1, h2⟩ := e1 i (List.mem_range.1 hi)
        show 0 ≤ intOf (V1 i) ∧ intOf (V1 i) ≤ _
        rw [hz]
        exact ⟨h1, h2⟩⟩
      rw [hlen] at hj
      obtain ⟨g0, g1, _, _⟩ := hx j (by omega)
      obtain ⟨z0, hz0⟩ := e0 j hj
      obtain ⟨z1, hz1, _⟩ := e1 j hj
      rw [hadd] at g0 g1
      rw [hget j hj, g0, show o + j * 2 + 1 = o + (j * 2 + 1) by omega, g1, hz0, hz1]
      exact ⟨rfl, rfl⟩

theorem Try.cellsTwo : Try.prog.cellsOf 34 = 2 := by kernel_rfl
theorem Try.cellsU : Try.prog.cellsOf 23 = 1 := by kernel_rfl

set_option maxRecDepth 100000 in
theorem open_two {H : Type} {enc : TypeId × Value → H} {W : World} {r : Reach} {b0 base : Nat} {spare : Nat → Bool} {held : Bool} {v : Value} {d : DataW H} {ps : List MemPlace}
    (hval : Value.okWide Try.prog W r b0 34 v) (hd : DataW.Trod enc Try.prog W base spare held 34 v d ps) :
    ∃ x y, v = .agg #[.int .u64 x, .int .u64 y] ∧ (Lit.int .u64 x).wf = true ∧ (Lit.int .u64 y).wf = true := by
  simp only [Value.okWide, Try.underlying34] at hval
  obtain ⟨cs, rfl, h2, _⟩ := hval
  rw [Try.cellsTwo] at h2
  obtain ⟨fuel, hf⟩ := hd
  obtain ⟨xs, m, _, _, _, hl, he⟩ := DataW.trod_array Try.underlying34 hf
  rw [Try.cellsU] at he
  obtain ⟨l⟩ := cs
  match l, h2 with
  | [c0, c1], _ =>
    have g0 := he 0 (by decide)
    have g1 := he 1 (by decide)
    rw [List.getElem?_eq_getElem (by omega)] at g0 g1
    simp [Value.cells] at g0 g1
    obtain ⟨x, e0, _, w0⟩ := DataW.trod_int Try.underlying23 g0
    obtain ⟨y, e1, _, w1⟩ := DataW.trod_int Try.underlying23 g1
    simp at e0 e1
    subst e0 e1
    exact ⟨x, y, rfl, w0, w1⟩

end Go.Proofs.Ytdgedckfaefohaa
