/- The library's stable sort of ints by a comparison: rotate. -/
import Derived.Test.YtdgedckfaefohaaSortWalk1
namespace Go.Proofs.Ytdgedckfaefohaa
open Go.RowKit Go.Sort
open Go.Proofs.Ytdgedckfaefohaa.Srt
variable {α : Type} [Inhabited α]

set_option maxHeartbeats 4000000 in
set_option maxRecDepth 100000 in
theorem rotate_s (enc : α → Value) (cv : Value) (blk off cap a m b : Nat) (d0 d : Array α) (w0 w : World) (R : Row1 enc w0 blk off d0) (hs : d0.size = d.size) (S : SW enc w0 blk off d w)
    (ham : a < m) (hmb : m < b) (hb : b ≤ d.size) (hsz : d.size ≤ 140737488355328) :
    Calls Try.prog 76 #[.slice (some ⟨blk, off, none⟩) d.size cap, .int .i64 a, .int .i64 m, .int .i64 b, cv] w fun e w' =>
      e = .returned (.tuple #[]) ∧ Aside (∃ d', Rot d d' a m b ∧ SW enc w0 blk off d' w') := by
  have S0 : Aside (SW enc w0 blk off d w) := S
  clear S
  have hAM : Aside (∀ i : Nat, i ≤ m → ((m : Int) - (i : Int)) = ((m - i : Nat) : Int)) := fun i h => by omega
  go_enter Try.func76, Try.ntmps76
  go_wp2
  go_loopg [10, 11] (m - a + (b - m)) (fun g vi vj wr => ∃ (i j : Nat) (dk : Array α), vi = .int .i64 i ∧ vj = .int .i64 j ∧ 1 ≤ i ∧ 1 ≤ j ∧ i ≤ m - a ∧ j ≤ b - m ∧ i + j ≤ g ∧
    Aside (dk.size = d.size) ∧ Aside (∀ d2, Rot dk d2 (m - i) m (m + j) → Rot d d2 a m b) ∧ Aside (SW enc w0 blk off dk wr))
  case atStart =>
    refine ⟨m - a, b - m, d, by first | go_num | (congr 1; omega), by first | go_num | (congr 1; omega), by omega, by omega, Nat.le_refl _, Nat.le_refl _, Nat.le_refl _, rfl, fun d2 h => ?_, S0⟩
    rw [show m - (m - a) = a by omega, show m + (b - m) = b by omega] at h
    exact h
  case round =>
    clear S0
    obtain ⟨i, j, dk, rfl, rfl, hi1, hj1, hia, hjb, hg, HZ, HC, S1⟩ := hrel
    by_cases hne : i = j
    · subst hne
      have hb1 : ((i : Int) == (i : Int)) = true := by simp
      go_wp2_with fail
      refine (swapRange_i enc _ blk off cap (m - i) m i d0 dk w0 _ _ _ _ (by omega) rfl rfl R (hs.trans HZ.out.symm) S1.out (by omega) (by have := HZ.out; omega) (by have := HZ.out; omega) _ HZ.out.symm).mono ?_
      rintro e w' ⟨rfl, hq⟩
      go_wp2
      go_end0
      refine ⟨rfl, ?_⟩
      obtain ⟨d', h1, h2⟩ := hq.out
      exact ⟨d', HC.out _ (Rot.both h1 (by omega)), h2⟩
    · have hb1 : ((i : Int) == (j : Int)) = false := by rw [beq_eq_false_iff_ne]; omega
      have hb2 : ((i : Int) != (j : Int)) = true := by rw [bne_iff_ne]; omega
      by_cases hgt : j < i
      · have hgtz : (j : Int) < (i : Int) := by omega
        go_wp2_with fail
        refine (swapRange_i enc _ blk off cap (m - i) m j d0 dk w0 _ _ _ _ (by omega) rfl rfl R (hs.trans HZ.out.symm) S1.out (by omega) (by have := HZ.out; omega) (by have := HZ.out; omega) _ HZ.out.symm).mono ?_
        rintro e w' ⟨rfl, hq⟩
        clear S1
        go_wp2
        obtain ⟨d', h1, h2⟩ := hq.out
        go_roundg (i - j + j)
        case measure => omega
        case rel => exact ⟨i - j, j, d', by first | go_num | (congr 1; omega), rfl, by omega, hj1, by omega, hjb, by omega, h1.1.trans HZ.out, fun d2 hd2 => HC.out _ (Rot.left h1 hgt (by omega) hd2), h2⟩
      · have hgtz : ¬ (j : Int) < (i : Int) := by omega
        go_wp2_with fail
        refine (swapRange_i enc _ blk off cap (m - i) (m + j - i) i d0 dk w0 _ _ _ _ (by omega) (by omega) rfl R (hs.trans HZ.out.symm) S1.out (by omega) (by have := HZ.out; omega) (by have := HZ.out; omega) _ HZ.out.symm).mono ?_
        rintro e w' ⟨rfl, hq⟩
        clear S1
        go_wp2
        obtain ⟨d', h1, h2⟩ := hq.out
        go_roundg (i + (j - i))
        case measure => omega
        case rel => exact ⟨i, j - i, d', rfl, by first | go_num | (congr 1; omega), hi1, by omega, hia, by omega, by omega, h1.1.trans HZ.out, fun d2 hd2 => HC.out _ (Rot.right h1 (by omega) (by omega) hd2), h2⟩

end Go.Proofs.Ytdgedckfaefohaa
