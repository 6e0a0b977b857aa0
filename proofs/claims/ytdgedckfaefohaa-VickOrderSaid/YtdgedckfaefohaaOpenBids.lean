/- A slice of bids that came in, opened. -/
import Derived.Test.YtdgedckfaefohaaTells
import Derived.ProofKit
import Derived.OpenShut
import Derived.ShutString
import Derived.ChangeOld
import Derived.Deep.SlicePairs
namespace Go.Proofs.Ytdgedckfaefohaa
open Go.RowKit Go.Sort Go.Deep Go.ChangeShapes Go.WideShapes
open Go.Proofs.Ytdgedckfaefohaa.Vk

theorem Try.structBid : Try.prog.cellsOf 32 = 2 := by kernel_rfl

theorem spot_none (w : World) (b o k : Nat) : w.cell? ⟨b, o, some k⟩ = none := by
  unfold World.cell?
  split <;> simp

theorem open_bids {H : Type} {enc : TypeId × Value → H} {W : World} {base : Nat} {spare : Nat → Bool} {held : Bool} {fuel : Nat} {a0 : Option Addr} {len cap : Nat} {x : DataW H × List MemPlace}
    (h : DataW.trod enc Try.prog W base spare held fuel 22 (Value.slice a0 len cap).cells.toList = some x) :
    ∃ bs, BidsAt W (.slice a0 len cap) bs ∧ len ≤ cap ∧ bs.length = len ∧ cap ≤ maxLen := by
  rcases open_slice_pairs Try.underlying22 Try.underlying32 Try.structBid rfl rfl (by kernel_rfl) (by kernel_rfl) h with ⟨hcs, _⟩ | ⟨a, len', cap', m, n, V0, V1, D0, D1, P0, P1, hcs, _, hl, hm, hmm, _, hx⟩
  · simp [Value.cells] at hcs
    obtain ⟨rfl, rfl, rfl⟩ := hcs
    exact ⟨[], .inl ⟨.inl rfl, rfl⟩, Nat.le_refl _, rfl, by unfold maxLen; omega⟩
  · simp [Value.cells] at hcs
    obtain ⟨rfl, rfl, rfl⟩ := hcs
    have hlm : len ≤ m := by rw [hmm]; split <;> omega
    have e0 : ∀ i, i < len → ∃ z, V0 i = .int .i64 z := fun i hi => by
      obtain ⟨z, hz, _⟩ := DataW.trod_int Try.underlying3 (hx i (by omega)).2.2.1
      exact ⟨z, by simpa using hz⟩
    have e1 : ∀ i, i < len → ∃ z, V1 i = .int .u64 z := fun i hi => by
      obtain ⟨z, hz, _⟩ := DataW.trod_int Try.underlying23 (hx i (by omega)).2.2.2
      exact ⟨z, by simpa using hz⟩
    have hlen : ((List.range len).map fun i => ((intOf (V0 i), intOf (V1 i)) : Bd)).length = len := by simp
    have hget : ∀ j, j < len → ((List.range len).map fun i => ((intOf (V0 i), intOf (V1 i)) : Bd))[j]! = (intOf (V0 j), intOf (V1 j)) := fun j hj => by
      rw [getElem!_pos _ j (by omega)]
      simp
    by_cases h0 : len = 0
    · subst h0
      exact ⟨[], .inl ⟨.inr ⟨_, _, rfl⟩, rfl⟩, hl, rfl, hm⟩
    · obtain ⟨b, o, s⟩ := a
      have hc := (hx 0 (by omega)).1
      have hs : s = none := by
        cases s with
        | none => rfl
        | some k => rw [show 0 * 2 = 0 from rfl, show (⟨b, o, some k⟩ : Addr).add 0 = ⟨b, o, some k⟩ from rfl, spot_none] at hc; simp at hc
      subst hs
      have hb : b < W.heap.size := World.block_lt_of_cell? W ⟨b, o, none⟩ hc
      have hadd : ∀ k, (⟨b, o, none⟩ : Addr).add k = ⟨b, o + k, none⟩ := fun k => by
        unfold Addr.add
        split
        · rename_i hk; subst hk; rfl
        · rfl
      refine ⟨_, .inr ⟨b, o, cap, by rw [hlen], fun _ => hb, fun j hj => ?_⟩, hl, hlen, hm⟩
      rw [hlen] at hj
      obtain ⟨g0, g1, _, _⟩ := hx j (by omega)
      obtain ⟨z0, hz0⟩ := e0 j hj
      obtain ⟨z1, hz1⟩ := e1 j hj
      rw [hadd] at g0 g1
      rw [hget j hj, g0, show o + j * 2 + 1 = o + (j * 2 + 1) by omega, g1, hz0, hz1]
      exact ⟨rfl, rfl⟩

end Go.Proofs.Ytdgedckfaefohaa
