/- The library's stable sort of ints by a comparison: swapRange. -/
import Derived.Test.YtdgedckfaefohaaCmp
import Derived.Test.YtdgedckfaefohaaSortPlain
import Derived.Deep.LoopGhost
import Derived.BigRegion
import Derived.Outline
namespace Go.Proofs.Ytdgedckfaefohaa
open Go.RowKit Go.Sort
open Go.Proofs.Ytdgedckfaefohaa.Srt
variable {α : Type} [Inhabited α]

set_option maxHeartbeats 4000000 in
set_option maxRecDepth 100000 in
theorem swapRange_s (enc : α → Value) (cv : Value) (blk off cap a b n : Nat) (d0 d : Array α) (w0 w : World) (R : Row1 enc w0 blk off d0) (hs : d0.size = d.size) (S : SW enc w0 blk off d w)
    (hab : a + n ≤ b) (hb : b + n ≤ d.size) (hsz : d.size ≤ 140737488355328) :
    Calls Try.prog 78 #[.slice (some ⟨blk, off, none⟩) d.size cap, .int .i64 a, .int .i64 b, .int .i64 n, cv] w fun e w' =>
      e = .returned (.tuple #[]) ∧ Aside (∃ d', Swapped d d' a b n ∧ SW enc w0 blk off d' w') := by
  have hcl0 := R.hO.cells
  simp only [Value.cells] at hcl0
  have hst := R.hO.store Try.prog
  have S0 : Aside (SW enc w0 blk off d w) := S
  clear S
  go_enter Try.func78, Try.ntmps78
  go_wp2
  go_loopg [10] n (fun g vi wr => ∃ (i : Nat) (dk : Array α), vi = .int .i64 i ∧ i ≤ n ∧ n - i ≤ g ∧ Aside (Swapped d dk a b i) ∧ Aside (SW enc w0 blk off dk wr))
  case atStart => exact ⟨0, d, rfl, Nat.zero_le _, Nat.le_refl _, Swapped.start d a b, S0⟩
  case round =>
    clear S0
    obtain ⟨i, dk, rfl, hin, hg, HS, S1⟩ := hrel
    have hsk : dk.size = d.size := HS.out.1
    by_cases hlt : i < n
    · have hltz : (i : Int) < (n : Int) := by omega
      obtain ⟨iN, hiN⟩ : ∃ q, q = a + i := ⟨_, rfl⟩
      obtain ⟨jN, hjN⟩ : ∃ q, q = b + i := ⟨_, rfl⟩
      obtain ⟨x, hx⟩ : ∃ x, x = dk[a + i]! := ⟨_, rfl⟩
      obtain ⟨y, hy⟩ : ∃ x, x = dk[b + i]! := ⟨_, rfl⟩
      have S3 : Aside (SW enc w0 blk off (swp dk (a + i) (b + i)) ((wr.setCell ⟨blk, off + iN, none⟩ (enc y)).setCell ⟨blk, off + jN, none⟩ (enc x)).drew) := by rw [hiN, hjN, hx, hy]; exact S1.out.swapped R _ _ (by omega) (by omega)
      have ca := S1.out.c1 R (by omega) (a + i) (by omega)
      have cb := S1.out.c1 R (by omega) (b + i) (by omega)
      have fa := S1.out.f1 R (by omega) (a + i) (by omega)
      have fb := S1.out.f1 R (by omega) (b + i) (by omega)
      obtain ⟨u, cc⟩ := S1.out.c2 R (by omega) (a + i) (b + i) (by omega) (by omega) (enc y)
      have pa : (0 : Int) ≤ (a : Int) + (i : Int) := by omega
      have ba : (a : Int) + (i : Int) < (d.size : Int) := by omega
      have ra : IntKind.i64.wrap ((a : Int) + (i : Int)) = (a : Int) + (i : Int) := by rw [IntKind.wrap_i64]; omega
      have pb : (0 : Int) ≤ (b : Int) + (i : Int) := by omega
      have bb : (b : Int) + (i : Int) < (d.size : Int) := by omega
      have rb : IntKind.i64.wrap ((b : Int) + (i : Int)) = (b : Int) + (i : Int) := by rw [IntKind.wrap_i64]; omega
      have ea : ((a : Int) + (i : Int)).toNat = iN := by omega
      have eb : ((b : Int) + (i : Int)).toNat = jN := by omega
      rw [← hiN, ← hjN] at cc
      rw [← hx, ← hiN] at ca
      rw [← hy, ← hjN] at cb
      rw [← hiN] at fa
      rw [← hjN] at fb
      clear S1 hx hy hiN hjN hsk
      go_wp2_with fail
      go_region
      clear ca cb cc fa fb ea eb ra rb
      generalize ((wr.setCell ⟨blk, off + iN, none⟩ (enc y)).setCell ⟨blk, off + jN, none⟩ (enc x)).drew = w3 at S3 ⊢
      go_wp2
      go_roundg (n - (i + 1))
      case measure => omega
      case rel => exact ⟨i + 1, _, by go_num, by omega, by omega, HS.out.step (by omega) (by omega), S3⟩
    · have hltz : ¬ (i : Int) < (n : Int) := by omega
      obtain rfl : i = n := by omega
      clear hsk
      go_wp2
      go_end0
      exact ⟨rfl, dk, HS.out, S1.out⟩

theorem swapRange_i (enc : α → Value) (cv : Value) (blk off cap a b n : Nat) (d0 d : Array α) (w0 w : World) (ai bi ni : Int) (ha : ai = a) (hb' : bi = b) (hn : ni = n) (R : Row1 enc w0 blk off d0) (hs : d0.size = d.size) (S : SW enc w0 blk off d w)
    (hab : a + n ≤ b) (hb : b + n ≤ d.size) (hsz : d.size ≤ 140737488355328) (dn : Nat) (hd : dn = d.size) :
    Calls Try.prog 78 #[.slice (some ⟨blk, off, none⟩) dn cap, .int .i64 ai, .int .i64 bi, .int .i64 ni, cv] w fun e w' =>
      e = .returned (.tuple #[]) ∧ Aside (∃ d', Swapped d d' a b n ∧ SW enc w0 blk off d' w') := by
  subst ha hb' hn hd
  exact swapRange_s enc cv blk off cap a b n d0 d w0 w R hs S hab hb hsz

end Go.Proofs.Ytdgedckfaefohaa
