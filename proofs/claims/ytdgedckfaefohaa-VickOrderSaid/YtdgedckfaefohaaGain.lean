/- consignlaw21.gain, walked. -/
import Derived.Test.YtdgedckfaefohaaTruthPlain
namespace Go.Proofs.Ytdgedckfaefohaa
open Go.RowKit Go.Sort
open Go.Proofs.Ytdgedckfaefohaa.Srt Go.Proofs.Ytdgedckfaefohaa.Vk

set_option maxHeartbeats 2000000 in
theorem gain_any (s j p c cost : Int) (w : World) (hp : 0 ≤ p ∧ p ≤ 18446744073709551615) (hc : 0 ≤ cost ∧ cost ≤ 18446744073709551615) :
    Calls Try.prog 21 #[.agg #[.int .i64 s, .int .i64 j, .int .u64 p], .int .i64 c, .int .u64 cost] w fun e w' => e = .returned (.tuple #[.int .u64 (gainOf s j p c cost).1, .int .u64 (gainOf s j p c cost).2]) ∧ Below w.heap.size w w' := by
  obtain ⟨hp0, hp1⟩ := hp
  obtain ⟨hc0, hc1⟩ := hc
  by_cases hs : s = 2 ∧ j = c
  · by_cases hle : cost ≤ p
    · have e : gainOf s j p c cost = (p - cost, 0) := by unfold gainOf; rw [if_pos hs, if_pos hle]
      have hd : 0 ≤ p - cost := by omega
      have hd1 : p - cost ≤ 18446744073709551615 := by omega
      obtain ⟨rfl, rfl⟩ := hs
      rw [e]
      clear e
      go_enter Try.func21, Try.ntmps21
      go_wp2
      go_ret2
      exact ⟨rfl, (Below.refl _ _).alloc (Nat.le_refl _) _⟩
    · have e : gainOf s j p c cost = (0, cost - p) := by unfold gainOf; rw [if_pos hs, if_neg hle]
      have hle' : p ≤ cost := by omega
      have hd : 0 ≤ cost - p := by omega
      have hd1 : cost - p ≤ 18446744073709551615 := by omega
      obtain ⟨rfl, rfl⟩ := hs
      rw [e]
      clear e
      go_enter Try.func21, Try.ntmps21
      go_wp2_with fail
      go_quiet (fail)
      go_wp2
      go_ret2
      exact ⟨rfl, below_drewN ((Below.refl _ _).alloc (Nat.le_refl _) _) nq⟩
  · have e : gainOf s j p c cost = (0, 0) := by unfold gainOf; rw [if_neg hs]
    rw [e]
    clear e
    by_cases h2 : s = 2
    · have hne : (j != c) = true := by rw [bne_iff_ne]; exact fun h => hs ⟨h2, h⟩
      subst h2
      go_enter Try.func21, Try.ntmps21
      go_wp2
      go_ret2
      exact ⟨rfl, (Below.refl _ _).alloc (Nat.le_refl _) _⟩
    · have hne : (s != 2) = true := by rw [bne_iff_ne]; exact h2
      go_enter Try.func21, Try.ntmps21
      go_wp2
      go_ret2
      exact ⟨rfl, (Below.refl _ _).alloc (Nat.le_refl _) _⟩

end Go.Proofs.Ytdgedckfaefohaa
