/- consignlaw30.entry: where a log's record lies, and how long it is. -/
import Derived.Test.YtkpmcjfolncmmaaDoorMPln7
import Derived.BigQuiet
set_option linter.all false
namespace Go.Proofs.YtkpmcjfolncmmaaDoor
open Go.RowKit

theorem byte_at (t : ByteArray) (i : Nat) (h : i < t.size) : (((t[i]'h).toNat : Nat) : Int) = byteOf t i := by
  have h1 : t.data.toList.getD i 0 = t[i]'h := by
    rw [List.getD_eq_getElem?_getD, List.getElem?_eq_getElem (by simpa using h)]
    rfl
  rw [byteOf, h1]

set_option maxHeartbeats 2000000 in
set_option maxRecDepth 100000 in
theorem entry_any {S : ByteArray → ByteArray} (hS : ∀ x, (S x).size = 32) (l : List RecD) (hl : AllMay l) (hn : l.length ≤ 1000000) (k : Nat) (hk : k < l.length) (t : ByteArray) (ht : t = textF S zero32 l) (w : World) :
    Calls Tryd.prog 10 #[.string t, .int .i64 k] w fun e w' => e = .returned (.tuple #[.int .i64 (atF S l k : Nat), .int .i64 (lenF l k : Nat)]) ∧ Below w.heap.size w w' := by
  have hsz : t.size ≤ 185000000 := by
    have := text_le hS l zero32 hl
    rw [ht]
    omega
  have HS := aside hS
  have HL := aside hl
  have HT := aside ht
  have HK := aside hk
  have hkn : k ≤ 1000000 := by omega
  clear hl ht hk hn hS
  go_enter Tryd.func10, Tryd.ntmps10
  go_wp2_with fail
  go_loopg [6, 7] k (fun g v6 v7 wr => ∃ j : Nat, j ≤ k ∧ v6 = .int .i64 (atF S l j : Nat) ∧ v7 = .int .i64 j ∧ k - j ≤ g ∧ Aside (Below w.heap.size w wr))
  case atStart => exact ⟨0, by omega, rfl, rfl, by omega, Below.refl _ _⟩
  case round =>
    obtain ⟨j, hj, rfl, rfl, hg, HB⟩ := hrel
    have hf := at_fits HS.out l j (by have := HK.out; omega)
    have hx := at_long (S := S) l HL.out j (by have := HK.out; omega)
    rw [← HT.out] at hf hx
    obtain ⟨p, hp⟩ : ∃ p, p = atF S l j := ⟨_, rfl⟩
    rw [← hp] at hf hx ⊢
    obtain ⟨n, hn⟩ : ∃ n, n = lenF l j := ⟨_, rfl⟩
    rw [← hn] at hf hx
    have hx8 := byteOf_u8 t p
    have hy8 := byteOf_u8 t (p + 1)
    obtain ⟨x, hxe⟩ : ∃ x, x = byteOf t p := ⟨_, rfl⟩
    obtain ⟨y, hye⟩ : ∃ y, y = byteOf t (p + 1) := ⟨_, rfl⟩
    rw [← hxe] at hx hx8
    rw [← hye] at hx hy8
    have HP := aside hp
    have HN := aside hn
    have HX := aside hx
    have hpl : (p : Int) + 1 < t.size := by omega
    have hpl2 : ¬ (t.size : Int) ≤ p + 1 := by omega
    have hpi : (p : Int) < t.size := by omega
    have hi0 : p < t.size := by omega
    have hi1 : p + 1 < t.size := by omega
    have q0 := byte_at t p hi0
    have q1 := byte_at t (p + 1) hi1
    rw [← hxe] at q0
    rw [← hye] at q1
    have e1 : IntKind.i64.wrap ((p : Int) + 1) = p + 1 := IntWalk.i64_in _ (by omega)
    have e2 : IntKind.i64.wrap ((p : Int) + 34) = p + 34 := IntWalk.i64_in _ (by omega)
    have e3 : IntKind.i64.wrap x = x := IntWalk.i64_in _ (by omega)
    have e4 : IntKind.i64.wrap y = y := IntWalk.i64_in _ (by omega)
    have e5 : IntKind.i64.wrap (x * 256) = x * 256 := IntWalk.i64_in _ (by omega)
    have e6 : IntKind.i64.wrap ((p : Int) + 34 + x * 256) = p + 34 + x * 256 := IntWalk.i64_in _ (by omega)
    have e7 : IntKind.i64.wrap ((p : Int) + 34 + x * 256 + y) = p + 34 + x * 256 + y := IntWalk.i64_in _ (by omega)
    have e8 : IntKind.i64.wrap (x * 256 + y) = x * 256 + y := IntWalk.i64_in _ (by omega)
    clear hp hn hx hxe hye
    by_cases hlt : j < k
    · have hji : (j : Int) < k := by omega
      have HME : Aside (k - (j + 1) < k - j) := by rw [Aside]; omega
      have HX2 : Aside (∀ nq, Below w.heap.size w (wr.drewN nq)) := fun nq => new_trans HB.out (new_drewN _ _)
      have HA : Aside ((p : Int) + 34 + x * 256 + y = ((atF S l (j + 1) : Nat) : Int)) := by
        rw [Aside, at_succ HS.out l j (by have := HK.out; omega), ← HP.out, ← HN.out]
        have := HX.out
        omega
      go_upto_region 5 with fail
      go_quiet (fail)
      rw [HA.out]
      clear hf hx8 hy8 q0 q1 e1 e2 e3 e4 e5 e6 e7 e8
      go_wp2_with fail
      go_roundg (k - (j + 1))
      case measure => exact Nat.lt_of_lt_of_le HME.out hg
      case rel => exact ⟨j + 1, hlt, rfl, by go_num, Nat.le_refl _, HX2.out _⟩
    · have hji : ¬ (j : Int) < k := by omega
      have HJK : Aside (j = k) := by rw [Aside]; omega
      have HX2 : Aside (∀ nq, Below w.heap.size w (wr.drewN nq)) := fun nq => new_trans HB.out (new_drewN _ _)
      clear hg
      go_upto_region 8 with fail
      go_quiet (fail)
      rw [HX.out]
      clear hf hx8 hy8 q0 q1 e1 e2 e3 e4 e5 e6 e7 e8
      go_wp2_with fail
      go_ret2
      exact ⟨by rw [HP.out, HN.out, HJK.out]; rfl, HX2.out _⟩

end Go.Proofs.YtkpmcjfolncmmaaDoor
