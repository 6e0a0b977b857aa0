/- The document's sum: words, plain; rotr, walked. Printed by wip/gen/hsh1.py. -/
import Derived.Test.YtkpmcjfolncmmaaGreatDoorSSha1
import Derived.Test.YtkpmcjfolncmmaaGreatDoorSRoot
import Derived.Laws.BitsAllLaws
import Derived.Test.YtkpmcjfolncmmaaGreatDoorSMay1
import Derived.Shelf.Bits.Mul64
import Derived.Test.YtkpmcjfolncmmaaGreatDoorSOwnG
set_option linter.all false
namespace Go.Proofs.YtkpmcjfolncmmaaGreatDoor
open Go.RowKit
theorem or_comm_u32 (a b : Int) : bits .or .u32 a b = bits .or .u32 b a := by
  have e : ∀ a b, bits .or .u32 a b = IntKind.u32.wrap ((BitVec.ofInt 32 a ||| BitVec.ofInt 32 b).toNat : Int) := fun _ _ => rfl
  rw [e, e, BitVec.or_comm]
theorem nat_of (x : Int) (h : 0 ≤ x ∧ x ≤ 4294967295) : ∃ n : Nat, x = n ∧ n < 4294967296 := ⟨x.toNat, by omega, by omega⟩
theorem bit_not (e i : Nat) (he : e < 4294967296) : (4294967295 - e).testBit i = (decide (i < 32) && !e.testBit i) := by
  have := Nat.testBit_two_pow_sub_succ (x := e) (n := 32) (by simpa using he) i
  rw [show 2 ^ 32 - (e + 1) = 4294967295 - e by omega] at this
  exact this
theorem bit_high (e i : Nat) (he : e < 4294967296) (hi : ¬ i < 32) : e.testBit i = false := by
  apply Nat.testBit_lt_two_pow
  exact Nat.lt_of_lt_of_le he (by have := Nat.pow_le_pow_right (show 0 < 2 by decide) (show 32 ≤ i by omega); simpa using this)
theorem ch_nat (e f g : Nat) (he : e < 4294967296) (hf : f < 4294967296) (hg : g < 4294967296) : (e &&& f) ^^^ ((4294967295 - e) &&& g) = g ^^^ (e &&& (f ^^^ g)) := by
  apply Nat.eq_of_testBit_eq
  intro i
  simp only [Nat.testBit_xor, Nat.testBit_and, bit_not e i he]
  by_cases hi : i < 32
  · simp only [hi, decide_true, Bool.true_and]
    cases e.testBit i <;> cases f.testBit i <;> cases g.testBit i <;> rfl
  · rw [bit_high e i he hi, bit_high f i hf hi, bit_high g i hg hi]
    simp
theorem maj_nat (a b c : Nat) : ((a &&& b) ^^^ (a &&& c)) ^^^ (b &&& c) = (a &&& b) ||| (c &&& (a ||| b)) := by
  apply Nat.eq_of_testBit_eq
  intro i
  simp only [Nat.testBit_xor, Nat.testBit_and, Nat.testBit_or]
  cases a.testBit i <;> cases b.testBit i <;> cases c.testBit i <;> rfl
theorem and_lt (a b : Nat) (h : a < 4294967296) : a &&& b < 4294967296 := Nat.lt_of_le_of_lt Nat.and_le_left h
theorem xor_lt (a b : Nat) (h : a < 4294967296) (h2 : b < 4294967296) : a ^^^ b < 4294967296 := Nat.xor_lt_two_pow (n := 32) h h2
theorem or_lt (a b : Nat) (h : a < 4294967296) (h2 : b < 4294967296) : a ||| b < 4294967296 := Nat.or_lt_two_pow (n := 32) h h2
theorem ch_eq (e f g : Int) (he : 0 ≤ e ∧ e ≤ 4294967295) (hf : 0 ≤ f ∧ f ≤ 4294967295) (hg : 0 ≤ g ∧ g ≤ 4294967295) :
    bits .xor .u32 (bits .and .u32 e f) (bits .and .u32 (4294967295 - e) g) = bits .xor .u32 g (bits .and .u32 e (bits .xor .u32 f g)) := by
  obtain ⟨e, rfl, ke⟩ := nat_of e he
  obtain ⟨f, rfl, kf⟩ := nat_of f hf
  obtain ⟨g, rfl, kg⟩ := nat_of g hg
  rw [show (4294967295 : Int) - e = ((4294967295 - e : Nat) : Int) by omega, u32_and_nat e f ke kf, u32_and_nat _ g (by omega) kg, u32_xor_nat _ _ (and_lt _ _ ke) (and_lt _ _ (by omega)), u32_xor_nat f g kf kg, u32_and_nat e _ ke (xor_lt _ _ kf kg), u32_xor_nat g _ kg (and_lt _ _ ke), ch_nat e f g ke kf kg]
theorem maj_eq (a b c : Int) (ha : 0 ≤ a ∧ a ≤ 4294967295) (hb : 0 ≤ b ∧ b ≤ 4294967295) (hc : 0 ≤ c ∧ c ≤ 4294967295) :
    bits .xor .u32 (bits .xor .u32 (bits .and .u32 a b) (bits .and .u32 a c)) (bits .and .u32 b c) = bits .or .u32 (bits .and .u32 a b) (bits .and .u32 c (bits .or .u32 a b)) := by
  obtain ⟨a, rfl, ka⟩ := nat_of a ha
  obtain ⟨b, rfl, kb⟩ := nat_of b hb
  obtain ⟨c, rfl, kc⟩ := nat_of c hc
  rw [u32_and_nat a b ka kb, u32_and_nat a c ka kc, u32_and_nat b c kb kc, u32_xor_nat _ _ (and_lt _ _ ka) (and_lt _ _ ka), u32_xor_nat _ _ (xor_lt _ _ (and_lt _ _ ka) (and_lt _ _ ka)) (and_lt _ _ kb), u32_or_nat a b ka kb, u32_and_nat c _ kc (or_lt _ _ ka kb), u32_or_nat _ _ (and_lt _ _ ka) (and_lt _ _ kc), maj_nat]
theorem or_add (a b i : Nat) (hb : b < 2 ^ i) : (a * 2 ^ i) ||| b = a * 2 ^ i + b := by
  rw [← Nat.shiftLeft_eq, Nat.shiftLeft_add_eq_or_of_lt hb]
theorem word_nat (a b c d : Nat) (ha : a < 256) (hb : b < 256) (hc : c < 256) (hd : d < 256) : (((a * 2 ^ 24) ||| (b * 2 ^ 16)) ||| (c * 2 ^ 8)) ||| d = a * 16777216 + b * 65536 + c * 256 + d := by
  rw [or_add a (b * 2 ^ 16) 24 (by omega)]
  rw [show a * 2 ^ 24 + b * 2 ^ 16 = (a * 256 + b) * 2 ^ 16 by omega, or_add _ (c * 2 ^ 8) 16 (by omega)]
  rw [show (a * 256 + b) * 2 ^ 16 + c * 2 ^ 8 = (a * 65536 + b * 256 + c) * 2 ^ 8 by omega, or_add _ d 8 (by omega)]
theorem or8_nat (x c : Nat) (hx : x < 16777216) (hc : c < 256) : or8 x c = ((x * 256 + c : Nat) : Int) := by
  rw [or8, show (x : Int) * 256 % 4294967296 = ((x * 2 ^ 8 : Nat) : Int) by omega, u32_or_nat _ _ (by omega) (by omega), or_add x c 8 (by omega)]
theorem word_eq (B : Nat → Int) (t : Nat) (hB : ∀ j, 0 ≤ B j ∧ B j ≤ 255) :
    bits .or .u32 (bits .or .u32 (bits .or .u32 (B (4 * t) * 16777216 % 4294967296) (B (4 * t + 1) * 65536 % 4294967296)) (B (4 * t + 2) * 256 % 4294967296)) (B (4 * t + 3)) = beTo B t 4 := by
  obtain ⟨a, ea, ha⟩ : ∃ n : Nat, B (4 * t) = n ∧ n < 256 := ⟨(B (4 * t)).toNat, by have := hB (4 * t); omega, by have := hB (4 * t); omega⟩
  obtain ⟨b, eb, hb⟩ : ∃ n : Nat, B (4 * t + 1) = n ∧ n < 256 := ⟨(B (4 * t + 1)).toNat, by have := hB (4 * t + 1); omega, by have := hB (4 * t + 1); omega⟩
  obtain ⟨c, ec, hc⟩ : ∃ n : Nat, B (4 * t + 2) = n ∧ n < 256 := ⟨(B (4 * t + 2)).toNat, by have := hB (4 * t + 2); omega, by have := hB (4 * t + 2); omega⟩
  obtain ⟨d, ed, hd⟩ : ∃ n : Nat, B (4 * t + 3) = n ∧ n < 256 := ⟨(B (4 * t + 3)).toNat, by have := hB (4 * t + 3); omega, by have := hB (4 * t + 3); omega⟩
  have e1 : beTo B t 4 = ((a * 16777216 + b * 65536 + c * 256 + d : Nat) : Int) := by
    show or8 (or8 (or8 (or8 0 (B (4 * t + 0))) (B (4 * t + 1))) (B (4 * t + 2))) (B (4 * t + 3)) = _
    rw [Nat.add_zero, ea, eb, ec, ed, show (0 : Int) = ((0 : Nat) : Int) from rfl, or8_nat 0 a (by omega) ha, or8_nat _ b (by omega) hb, or8_nat _ c (by omega) hc, or8_nat _ d (by omega) hd]
    omega
  rw [e1, ea, eb, ec, ed, show (a : Int) * 16777216 % 4294967296 = ((a * 2 ^ 24 : Nat) : Int) by omega, show (b : Int) * 65536 % 4294967296 = ((b * 2 ^ 16 : Nat) : Int) by omega, show (c : Int) * 256 % 4294967296 = ((c * 2 ^ 8 : Nat) : Int) by omega]
  have l1 : a * 2 ^ 24 < 4294967296 := by
    exact Nat.lt_of_lt_of_le (Nat.mul_lt_mul_of_pos_right ha (by decide)) (by decide)
  have l2 : b * 2 ^ 16 < 4294967296 := by
    exact Nat.lt_of_lt_of_le (Nat.mul_lt_mul_of_pos_right hb (by decide)) (by decide)
  have l3 : c * 2 ^ 8 < 4294967296 := by
    exact Nat.lt_of_lt_of_le (Nat.mul_lt_mul_of_pos_right hc (by decide)) (by decide)
  rw [u32_or_nat _ _ l1 l2, u32_or_nat _ _ (or_lt _ _ l1 l2) l3, u32_or_nat _ _ (or_lt _ _ (or_lt _ _ l1 l2) l3) (by omega), word_nat a b c d ha hb hc hd]
set_option maxHeartbeats 1000000 in
theorem rr_2 (x : Int) (w : World) : Calls Tryz.prog 90 #[.int .u32 x, .int .u64 2] w fun e w' => e = .returned (.int .u32 (rotr 2 x)) ∧ w' = w := by
  rw [rotr, or_comm_u32]
  go_enter Tryz.func90, Tryz.ntmps90
  go_wp2
  go_ret
  exact ⟨rfl, rfl⟩
set_option maxHeartbeats 1000000 in
theorem rr_6 (x : Int) (w : World) : Calls Tryz.prog 90 #[.int .u32 x, .int .u64 6] w fun e w' => e = .returned (.int .u32 (rotr 6 x)) ∧ w' = w := by
  rw [rotr, or_comm_u32]
  go_enter Tryz.func90, Tryz.ntmps90
  go_wp2
  go_ret
  exact ⟨rfl, rfl⟩
set_option maxHeartbeats 1000000 in
theorem rr_7 (x : Int) (w : World) : Calls Tryz.prog 90 #[.int .u32 x, .int .u64 7] w fun e w' => e = .returned (.int .u32 (rotr 7 x)) ∧ w' = w := by
  rw [rotr, or_comm_u32]
  go_enter Tryz.func90, Tryz.ntmps90
  go_wp2
  go_ret
  exact ⟨rfl, rfl⟩
set_option maxHeartbeats 1000000 in
theorem rr_11 (x : Int) (w : World) : Calls Tryz.prog 90 #[.int .u32 x, .int .u64 11] w fun e w' => e = .returned (.int .u32 (rotr 11 x)) ∧ w' = w := by
  rw [rotr, or_comm_u32]
  go_enter Tryz.func90, Tryz.ntmps90
  go_wp2
  go_ret
  exact ⟨rfl, rfl⟩
set_option maxHeartbeats 1000000 in
theorem rr_13 (x : Int) (w : World) : Calls Tryz.prog 90 #[.int .u32 x, .int .u64 13] w fun e w' => e = .returned (.int .u32 (rotr 13 x)) ∧ w' = w := by
  rw [rotr, or_comm_u32]
  go_enter Tryz.func90, Tryz.ntmps90
  go_wp2
  go_ret
  exact ⟨rfl, rfl⟩
set_option maxHeartbeats 1000000 in
theorem rr_17 (x : Int) (w : World) : Calls Tryz.prog 90 #[.int .u32 x, .int .u64 17] w fun e w' => e = .returned (.int .u32 (rotr 17 x)) ∧ w' = w := by
  rw [rotr, or_comm_u32]
  go_enter Tryz.func90, Tryz.ntmps90
  go_wp2
  go_ret
  exact ⟨rfl, rfl⟩
set_option maxHeartbeats 1000000 in
theorem rr_18 (x : Int) (w : World) : Calls Tryz.prog 90 #[.int .u32 x, .int .u64 18] w fun e w' => e = .returned (.int .u32 (rotr 18 x)) ∧ w' = w := by
  rw [rotr, or_comm_u32]
  go_enter Tryz.func90, Tryz.ntmps90
  go_wp2
  go_ret
  exact ⟨rfl, rfl⟩
set_option maxHeartbeats 1000000 in
theorem rr_19 (x : Int) (w : World) : Calls Tryz.prog 90 #[.int .u32 x, .int .u64 19] w fun e w' => e = .returned (.int .u32 (rotr 19 x)) ∧ w' = w := by
  rw [rotr, or_comm_u32]
  go_enter Tryz.func90, Tryz.ntmps90
  go_wp2
  go_ret
  exact ⟨rfl, rfl⟩
set_option maxHeartbeats 1000000 in
theorem rr_22 (x : Int) (w : World) : Calls Tryz.prog 90 #[.int .u32 x, .int .u64 22] w fun e w' => e = .returned (.int .u32 (rotr 22 x)) ∧ w' = w := by
  rw [rotr, or_comm_u32]
  go_enter Tryz.func90, Tryz.ntmps90
  go_wp2
  go_ret
  exact ⟨rfl, rfl⟩
set_option maxHeartbeats 1000000 in
theorem rr_25 (x : Int) (w : World) : Calls Tryz.prog 90 #[.int .u32 x, .int .u64 25] w fun e w' => e = .returned (.int .u32 (rotr 25 x)) ∧ w' = w := by
  rw [rotr, or_comm_u32]
  go_enter Tryz.func90, Tryz.ntmps90
  go_wp2
  go_ret
  exact ⟨rfl, rfl⟩
end Go.Proofs.YtkpmcjfolncmmaaGreatDoor
namespace Go.Proofs.YtkpmcjfolncmmaaGreatDoor
open Go.RowKit
def noDiv (n k : Nat) : Bool := allTo (fun j => decide (¬ n % (j + 2) = 0)) k
def primeB (n : Nat) : Bool := noDiv n (n - 2)
set_option maxHeartbeats 1000000 in
set_option maxRecDepth 100000 in
theorem prime_any (n : Nat) (h2 : 2 ≤ n) (hn : n ≤ 1000000) (w : World) : Calls Tryz.prog 99 #[.int .u64 n] w fun e w' => e = .returned (.bool (primeB n)) ∧ w' = w := by
  obtain ⟨R, hR⟩ : ∃ R, R = primeB n := ⟨_, rfl⟩
  have HR := aside hR
  rw [← hR]
  clear hR
  go_enter Tryz.func99, Tryz.ntmps99
  go_wp2_with fail
  go_loopg [3] n (fun gk v3 wr => ∃ k : Nat, k + 2 ≤ n ∧ v3 = .int .u64 ((k + 2 : Nat) : Int) ∧ n - k ≤ gk ∧ Aside (noDiv n k = true) ∧ wr = w)
  case atStart => exact ⟨0, by omega, rfl, by omega, rfl, rfl⟩
  case round =>
    obtain ⟨k, hk, rfl, hgk, HA, hwr⟩ := hrel
    rw [hwr]
    clear hwr
    obtain ⟨d, hd⟩ : ∃ d, d = k + 2 := ⟨_, rfl⟩
    rw [← hd] at hk ⊢
    have hd2 : 2 ≤ d := by omega
    have HD := aside hd
    have HG : Aside (n - (k + 1) < gk) := by rw [Aside]; omega
    clear hd hgk
    have hd0 : ¬ (d : Int) = 0 := by omega
    by_cases hlt : d < n
    · have hki : (d : Int) < n := by omega
      obtain ⟨q, hq⟩ : ∃ q, q = n % d := ⟨_, rfl⟩
      have hm : (n : Int).tmod (d : Int) = (q : Int) := by rw [hq]; rfl
      by_cases h0 : q = 0
      · have HF : Aside (R = false) := by
          rw [Aside, HR.out, primeB, noDiv]
          have hd' := HD.out
          refine allTo_no _ k (n - 2) (by omega) ?_
          rw [← hd', ← hq, h0]
          rfl
        have e0 : ((q : Int) == 0) = true := by simpa using h0
        clear hq h0 hlt hk
        go_wp2_with fail
        go_ret
        exact ⟨by rw [HF.out]; rfl, rfl⟩
      · have HA2 : Aside (noDiv n (k + 1) = true) := by
          have hd' := HD.out
          have ha := HA.out
          rw [noDiv] at ha
          rw [Aside, noDiv, allTo, ha, ← hd', ← hq, decide_eq_true h0]
          rfl
        have e0 : ((q : Int) == 0) = false := by simpa using h0
        have hw : IntKind.u64.wrap ((d : Int) + 1) = ((k + 1 + 2 : Nat) : Int) := by rw [IntKind.wrap_u64]; have := HD.out; omega
        have HK : Aside (k + 1 + 2 ≤ n) := by have := HD.out; rw [Aside]; omega
        clear hq h0 hlt hk
        go_wp2_with fail
        go_roundg (n - (k + 1))
        case measure => exact HG.out
        case rel => exact ⟨k + 1, HK.out, rfl, by omega, HA2.out, rfl⟩
    · have hki : ¬ (d : Int) < n := by omega
      have hn1 : (1 : Int) < n := by omega
      have HF : Aside (R = true) := by
        rw [Aside, HR.out, primeB, show n - 2 = k by have := HD.out; omega]
        exact HA.out
      clear hlt hk
      go_wp2_with fail
      go_ret
      exact ⟨by rw [HF.out]; rfl, rfl⟩
open Go.Proofs in
set_option maxHeartbeats 1000000 in
theorem mul_any (x y : Nat) (hx : x < 18446744073709551616) (hy : y < 18446744073709551616) (w : World) :
    Calls Tryz.prog 106 #[.int .u64 x, .int .u64 y] w fun e w' => e = .returned (.tuple #[.int .u64 ((x * y / 18446744073709551616 : Nat) : Int), .int .u64 ((x * y % 18446744073709551616 : Nat) : Int)]) ∧ w' = w := by
  obtain ⟨bd, bt, bw, hhi⟩ := Lib.mul64_hi x y hx hy
  have ba := Lib.half_mul_le (a := x / 4294967296) (b := y / 4294967296) (by omega) (by omega)
  have bb := Lib.half_mul_le (a := x / 4294967296) (b := y % 4294967296) (by omega) (by omega)
  have bc := Lib.half_mul_le (a := x % 4294967296) (b := y / 4294967296) (by omega) (by omega)
  have ba' : x / 4294967296 * (y / 4294967296) < 18446744073709551616 := by omega
  have bb' : x / 4294967296 * (y % 4294967296) < 18446744073709551616 := by omega
  have bc' : x % 4294967296 * (y / 4294967296) < 18446744073709551616 := by omega
  have bh1 : x / 4294967296 * (y / 4294967296) + (x / 4294967296 * (y % 4294967296) + x % 4294967296 * (y % 4294967296) / 4294967296) / 4294967296 < 18446744073709551616 := by omega
  have bh : x / 4294967296 * (y / 4294967296) + (x / 4294967296 * (y % 4294967296) + x % 4294967296 * (y % 4294967296) / 4294967296) / 4294967296 + ((x / 4294967296 * (y % 4294967296) + x % 4294967296 * (y % 4294967296) / 4294967296) % 4294967296 + x % 4294967296 * (y / 4294967296)) / 4294967296 < 18446744073709551616 := by omega
  go_enter Tryz.func106, Tryz.ntmps106
  go_wp2
  simp only [Mul64.maskN x hx, Mul64.maskN y hy, Mul64.divN, Mul64.mulN, Mul64.addN, Mul64.wrapN _ bd, Mul64.wrapN _ bb', Mul64.wrapN _ bt, Mul64.maskN _ bt, Mul64.wrapN _ bc', Mul64.wrapN _ bw, Mul64.wrapN _ ba', Mul64.wrapN _ bh1, Mul64.wrapN _ bh, Mul64.wrapM (x * y)]
  rw [hhi]
  go_ret2
  exact ⟨rfl, rfl⟩
def belowB (n p : Nat) (cube : Bool) : Bool :=
  if cube then decide ((n * n / 18446744073709551616 * n + n * n % 18446744073709551616 * n / 18446744073709551616) % 18446744073709551616 < p * 4294967296) || (decide ((n * n / 18446744073709551616 * n + n * n % 18446744073709551616 * n / 18446744073709551616) % 18446744073709551616 = p * 4294967296) && decide (n * n % 18446744073709551616 * n % 18446744073709551616 = 0))
  else decide (n * n / 18446744073709551616 < p) || (decide (n * n / 18446744073709551616 = p) && decide (n * n % 18446744073709551616 = 0))
set_option maxHeartbeats 1000000 in
set_option maxRecDepth 100000 in
theorem below_any (n p : Nat) (hn : n < 18446744073709551616) (hp : p ≤ 1000000) (cube : Bool) (w : World) : Calls Tryz.prog 100 #[.int .u64 n, .int .u64 p, .bool cube] w fun e w' => e = .returned (.bool (belowB n p cube)) ∧ w' = w := by
  obtain ⟨R, hR⟩ : ∃ R, R = belowB n p cube := ⟨_, rfl⟩
  have HR := aside hR
  rw [← hR]
  obtain ⟨H, hH⟩ : ∃ H, H = n * n / 18446744073709551616 := ⟨_, rfl⟩
  obtain ⟨L, hL⟩ : ∃ L, L = n * n % 18446744073709551616 := ⟨_, rfl⟩
  have hLl : L < 18446744073709551616 := by rw [hL]; exact Nat.mod_lt _ (by decide)
  have HH := aside hH
  have HL := aside hL
  have HLL := aside hLl
  have HNN := aside hn
  clear hR hn
  go_enter Tryz.func100, Tryz.ntmps100
  go_wp2_with fail
  refine (mul_any n n HNN.out HNN.out w).mono ?_
  rintro e w1 ⟨rfl, hw⟩
  rw [hw, ← hH, ← hL]
  clear hw w1 hH hL hLl
  cases cube with
  | false =>
    have HB : Aside (R = (decide (H < p) || (decide (H = p) && decide (L = 0)))) := by rw [Aside, HR.out, belowB, ← HH.out, ← HL.out]; rfl
    by_cases h1 : H < p
    · have HF : Aside (R = true) := by rw [Aside, HB.out, decide_eq_true h1]; rfl
      have e1 : decide ((H : Int) < p) = true := decide_eq_true (by omega)
      have e1' : decide (H < p) = true := decide_eq_true h1
      go_wp2_with fail
      go_ret
      exact ⟨by rw [HF.out]; rfl, rfl⟩
    · have e1 : decide ((H : Int) < p) = false := decide_eq_false (by omega)
      have e1' : decide (H < p) = false := decide_eq_false h1
      by_cases h2 : H = p
      · have HF : Aside (R = decide (L = 0)) := by rw [Aside, HB.out, e1', decide_eq_true h2]; simp
        have e2 : ((H : Int) == p) = true := by rw [beq_iff_eq]; omega
        by_cases h3 : L = 0
        · have e3 : ((L : Int) == 0) = true := by simpa using h3
          have HF2 : Aside (R = true) := by rw [Aside, HF.out, decide_eq_true h3]
          clear h1 h3 h2
          go_wp2_with fail
          go_ret
          exact ⟨by first | (rw [HF2.out]; rfl) | (rw [HF2.out, ← e3]; rfl), rfl⟩
        · have e3 : ((L : Int) == 0) = false := by simpa using h3
          have HF2 : Aside (R = false) := by rw [Aside, HF.out, decide_eq_false h3]
          clear h1 h3 h2
          go_wp2_with fail
          go_ret
          exact ⟨by first | (rw [HF2.out]; rfl) | (rw [HF2.out, ← e3]; rfl), rfl⟩
      · have HF : Aside (R = false) := by rw [Aside, HB.out, e1', decide_eq_false h2]; rfl
        have e2 : ((H : Int) == p) = false := by rw [beq_eq_false_iff_ne]; omega
        clear h1 h2
        go_wp2_with fail
        go_ret
        exact ⟨by rw [HF.out]; rfl, rfl⟩
  | true =>
    go_wp2_with fail
    refine (mul_any L n HLL.out HNN.out w).mono ?_
    rintro e w1 ⟨rfl, hw⟩
    rw [hw]
    clear hw w1
    obtain ⟨M, hM⟩ : ∃ M, M = L * n / 18446744073709551616 := ⟨_, rfl⟩
    obtain ⟨Z, hZ⟩ : ∃ Z, Z = L * n % 18446744073709551616 := ⟨_, rfl⟩
    rw [← hM, ← hZ]
    obtain ⟨T, hT⟩ : ∃ T, T = (H * n + M) % 18446744073709551616 := ⟨_, rfl⟩
    obtain ⟨Q, hQ⟩ : ∃ Q, Q = p * 4294967296 := ⟨_, rfl⟩
    have HB : Aside (R = (decide (T < Q) || (decide (T = Q) && decide (Z = 0)))) := by rw [Aside, HR.out, belowB, ← HH.out, ← HL.out, ← hM, ← hZ, ← hT, ← hQ]; rfl
    obtain ⟨A, hA⟩ : ∃ A, A = H * n % 18446744073709551616 := ⟨_, rfl⟩
    have hw1 : IntKind.u64.wrap ((H : Int) * n) = (A : Int) := by rw [IntKind.wrap_u64, hA, Int.natCast_emod, Int.natCast_mul]; rfl
    have hw2 : IntKind.u64.wrap ((A : Int) + M) = (T : Int) := by rw [IntKind.wrap_u64, hT, hA]; omega
    have hw2' : ((A : Int) + M) % 18446744073709551616 = (T : Int) := by rw [← hw2, IntKind.wrap_u64]
    have hw3 : IntKind.u64.wrap ((p : Int) * 4294967296) = (Q : Int) := by rw [IntKind.wrap_u64, hQ]; omega
    have hw3' : (p : Int) * 4294967296 % 18446744073709551616 = (Q : Int) := by rw [hQ]; omega
    clear hM hZ hT hQ hA
    by_cases h1 : T < Q
    · have HF : Aside (R = true) := by rw [Aside, HB.out, decide_eq_true h1]; rfl
      have e1 : decide ((T : Int) < Q) = true := decide_eq_true (by omega)
      have e1' : decide (T < Q) = true := decide_eq_true h1
      go_wp2_with fail
      go_ret
      exact ⟨by rw [HF.out]; rfl, rfl⟩
    · have e1 : decide ((T : Int) < Q) = false := decide_eq_false (by omega)
      have e1' : decide (T < Q) = false := decide_eq_false h1
      by_cases h2 : T = Q
      · have HF : Aside (R = decide (Z = 0)) := by rw [Aside, HB.out, e1', decide_eq_true h2]; simp
        have e2 : ((T : Int) == Q) = true := by rw [beq_iff_eq]; omega
        by_cases h3 : Z = 0
        · have e3 : ((Z : Int) == 0) = true := by simpa using h3
          have HF2 : Aside (R = true) := by rw [Aside, HF.out, decide_eq_true h3]
          clear h1 h3 h2
          go_wp2_with fail
          go_ret
          exact ⟨by first | (rw [HF2.out]; rfl) | (rw [HF2.out, ← e3]; rfl), rfl⟩
        · have e3 : ((Z : Int) == 0) = false := by simpa using h3
          have HF2 : Aside (R = false) := by rw [Aside, HF.out, decide_eq_false h3]
          clear h1 h3 h2
          go_wp2_with fail
          go_ret
          exact ⟨by first | (rw [HF2.out]; rfl) | (rw [HF2.out, ← e3]; rfl), rfl⟩
      · have HF : Aside (R = false) := by rw [Aside, HB.out, e1', decide_eq_false h2]; rfl
        have e2 : ((T : Int) == Q) = false := by rw [beq_eq_false_iff_ne]; omega
        clear h1 h2
        go_wp2_with fail
        go_ret
        exact ⟨by rw [HF.out]; rfl, rfl⟩
end Go.Proofs.YtkpmcjfolncmmaaGreatDoor
namespace Go.Proofs.YtkpmcjfolncmmaaGreatDoor
open Go.RowKit
def fracF (p : Nat) (cube : Bool) : Nat → Nat → Nat
  | 0, n => n
  | k + 1, n => fracF p cube k (if belowB (n ||| 2 ^ k) p cube then n ||| 2 ^ k else n)
def fractionF (p : Nat) (cube : Bool) : Nat := fracF p cube 36 0 % 4294967296
theorem bit_u64 (n k : Nat) (hn : n < 68719476736) (hk : k < 36) : bits .or .u64 (n : Int) ((2 ^ k : Nat) : Int) = ((n ||| 2 ^ k : Nat) : Int) ∧ n ||| 2 ^ k < 68719476736 := by
  have h2 : 2 ^ k < 68719476736 := by
    have := Nat.pow_lt_pow_right (show 1 < 2 by decide) hk
    simpa using this
  refine ⟨bits_or_u64_nat n _ (by omega) (by omega), ?_⟩
  exact Nat.or_lt_two_pow (n := 36) (by simpa using hn) (by simpa using h2)
set_option maxHeartbeats 1000000 in
set_option maxRecDepth 100000 in
theorem fraction_any (p : Nat) (hp : p ≤ 1000000) (cube : Bool) (w : World) : Calls Tryz.prog 88 #[.int .u64 p, .bool cube] w fun e w' => e = .returned (.int .u32 (fractionF p cube)) ∧ w' = w := by
  obtain ⟨R, hR⟩ : ∃ R, R = fracF p cube 36 0 := ⟨_, rfl⟩
  have HR := aside hR.symm
  have HP := aside hp
  rw [fractionF, ← hR]
  clear hR hp
  go_enter Tryz.func88, Tryz.ntmps88
  go_wp2_with fail
  go_loopg [5, 6] 36 (fun gk v5 v6 wr => ∃ (k n : Nat), k ≤ 36 ∧ v5 = .int .u64 n ∧ v6 = .int .i64 ((k : Int) - 1) ∧ k ≤ gk ∧ n < 68719476736 ∧ Aside (fracF p cube k n = R) ∧ wr = w)
  case atStart => exact ⟨36, 0, by omega, rfl, rfl, by omega, by omega, HR.out, rfl⟩
  case round =>
    clear HR
    obtain ⟨k, n, hk, rfl, rfl, hgk, hn, HF, hwr⟩ := hrel
    rw [hwr]
    clear hwr
    cases k with
    | zero =>
      have HE : Aside (n = R) := HF.out
      have hi : ¬ (0 : Int) ≤ ((0 : Nat) : Int) - 1 := by omega
      have hw : IntKind.u32.wrap (n : Int) = ((R % 4294967296 : Nat) : Int) := by rw [IntKind.wrap_u32, HE.out]; rfl
      clear HF hk hgk hn
      go_wp2_with fail
      go_ret
      exact ⟨rfl, rfl⟩
    | succ k =>
      have hki : ((k + 1 : Nat) : Int) - 1 = k := by omega
      rw [hki]
      clear hki
      have hi : (0 : Int) ≤ (k : Int) := by omega
      obtain ⟨m, hm⟩ : ∃ m, m = n ||| 2 ^ k := ⟨_, rfl⟩
      obtain ⟨hb0, hml⟩ := bit_u64 n k hn (by omega)
      rw [← hm] at hb0 hml
      have h2 : ((2 : Int) ^ k) = ((2 ^ k : Nat) : Int) := by rw [Int.natCast_pow]; rfl
      have hwp : IntKind.u64.wrap ((2 : Int) ^ k) = ((2 ^ k : Nat) : Int) := by
        have := Nat.pow_lt_pow_right (show 1 < 2 by decide) (show k < 36 by omega)
        have h3 : (2 : Nat) ^ k < 68719476736 := by simpa using this
        rw [h2, IntKind.wrap_u64]
        generalize (2 : Nat) ^ k = z at h3 ⊢
        omega
      have hb : bits .or .u64 (n : Int) (IntKind.u64.wrap ((2 : Int) ^ k)) = (m : Int) := by rw [hwp]; exact hb0
      have HF2 : Aside (fracF p cube k (if belowB m p cube then m else n) = R) := by rw [Aside, ← HF.out, fracF, ← hm]
      have HML := aside hml
      have HML2 : Aside (m < 18446744073709551616) := by rw [Aside]; omega
      have HNL := aside hn
      have HK : Aside (k ≤ 36 ∧ k < gk) := ⟨by omega, by omega⟩
      clear h2 hwp hb0 hm hml HF
      go_upto_region 6 with fail
      clear hb hk hgk hn
      go_wp2_with fail
      refine (below_any m p HML2.out HP.out cube w).mono ?_
      rintro e w1 ⟨rfl, hw⟩
      rw [hw]
      clear hw w1
      obtain ⟨B, hB⟩ : ∃ B, B = belowB m p cube := ⟨_, rfl⟩
      rw [← hB] at HF2 ⊢
      clear hB
      have hs : IntKind.i64.wrap ((k : Int) - 1) = (k : Int) - 1 := IntWalk.i64_in _ (by have := HK.out; omega)
      cases B with
      | true =>
        go_wp2_with fail
        go_roundg k
        case measure => exact HK.out.2
        case rel => exact ⟨k, m, HK.out.1, rfl, rfl, by omega, HML.out, HF2.out, rfl⟩
      | false =>
        go_wp2_with fail
        go_roundg k
        case measure => exact HK.out.2
        case rel => exact ⟨k, n, HK.out.1, rfl, rfl, by omega, HNL.out, HF2.out, rfl⟩
end Go.Proofs.YtkpmcjfolncmmaaGreatDoor
namespace Go.Proofs.YtkpmcjfolncmmaaGreatDoor
open Go.RowKit
theorem Tryz.infoU64 : (Tryz.prog.info? 24).map (fun i => (i.zero, i.size, i.bytes)) = some (some (.int .u64 0), 1, 8) := by kernel_rfl
theorem Tryz.infoU32 : (Tryz.prog.info? 133).map (fun i => (i.zero, i.size, i.bytes)) = some (some (.int .u32 0), 1, 4) := by kernel_rfl
def RowK (kd : IntKind) (w : World) (v : Value) (xs : List Int) : Prop :=
  ∃ a cap, v = .slice a xs.length cap ∧ xs.length ≤ cap ∧ (0 < xs.length → ∃ lb lo, a = some ⟨lb, lo, none⟩ ∧ lb < w.heap.size ∧ ∀ j, j < xs.length → w.cell? ⟨lb, lo + j, none⟩ = some (.int kd (xs.getD j 0)))
theorem RowK.on {kd : IntKind} {w w' : World} {v : Value} {xs : List Int} (h : RowK kd w v xs) (hb : Below w.heap.size w w') : RowK kd w' v xs := by
  obtain ⟨a, cap, e, hc, h⟩ := h
  refine ⟨a, cap, e, hc, fun h0 => ?_⟩
  obtain ⟨lb, lo, ea, hl, hj⟩ := h h0
  exact ⟨lb, lo, ea, Nat.lt_of_lt_of_le hl hb.size, fun j h3 => (hb.cell (p := ⟨lb, lo + j, none⟩) hl).trans (hj j h3)⟩
theorem RowK.own {kd : IntKind} {base : Nat} {E : TypeId} {w : World} {v : Value} {n : Nat} {xs : List Int} (h : w.ownsRow base E 1 v n (xs.map (Value.int kd))) (hn : xs.length = n) : RowK kd w v xs := by
  obtain ⟨a, cap, e, hc, hx⟩ := ownsRow_form h
  refine ⟨a, cap, by rw [hn]; exact e, by omega, fun h0 => ?_⟩
  obtain ⟨g, ea, _, hg, hj⟩ := hx (by omega)
  refine ⟨g, 0, ea, hg, fun j hjl => ?_⟩
  rw [Nat.zero_add]
  refine hj j _ ?_
  rw [List.getElem?_map, List.getElem?_eq_getElem hjl, List.getD_eq_getElem?_getD, List.getElem?_eq_getElem hjl]
  rfl
theorem below_grown {w w2 w3 : World} {o : Obj} {v : Value} {B : Nat} (hB : w.heap.size ≤ B) (h : Below w.heap.size w w2) (ho : ∀ j, v.ownBlock = some j → B ≤ j) (hg : (w2.alloc o).grownBy w3 v.ownBlock) : Below w.heap.size w w3 := by
  have hk3 : Keeps (· < w.heap.size) w2 w3 := (keeps_of_new (new_alloc _ _) _).trans (keeps_grown hg _ (fun j hj h => by have := ho j hj; omega))
  exact h.trans (hk3.below h.size)
def primesF (many : Nat) : Nat → Nat → List Nat → List Nat
  | 0, _, acc => acc
  | f + 1, n, acc => if acc.length < many then primesF many f (n + 1) (if primeB n then acc ++ [n] else acc) else acc
def primesL (many : Nat) : List Nat := primesF many 398 2 []
def natV (xs : List Nat) : List Int := List.map (fun n : Nat => (n : Int)) xs
def OwnPost (kd : IntKind) (E : TypeId) (xs : List Int) (w : World) (e : Ending) (w' : World) : Prop :=
  ∃ v, e = .returned v ∧ w'.ownsRow w.heap.size E 1 v xs.length (xs.map (Value.int kd)) ∧ Below w.heap.size w w'
set_option maxHeartbeats 2000000 in
set_option maxRecDepth 100000 in
theorem primes_any (many : Nat) (hm : many ≤ 1000) (w : World) : Calls Tryz.prog 87 #[.int .i64 many] w (OwnPost .u64 24 (natV (primesL many)) w) := by
  obtain ⟨R, hR⟩ : ∃ R, R = primesL many := ⟨_, rfl⟩
  have HR : Aside (primesF many 398 2 [] = R) := hR.symm
  rw [← hR]
  have HM := aside hm
  clear hR hm
  have HOW : Aside (w.ownsRow w.heap.size 24 1 (.slice none 0 0) 0 ((natV []).map (Value.int .u64))) := World.ownsRow_nil _ _ _ _
  go_enter Tryz.func87, Tryz.ntmps87
  go_wp2_with fail
  go_loopg [3, 4] 398 (fun gk v3 v4 wr => ∃ (f n : Nat) (y : Value) (xs : List Nat), y = v3 ∧ v4 = .int .u64 n ∧ n + f = 400 ∧ 2 ≤ n ∧ f ≤ gk ∧ xs.length ≤ n ∧ Aside (primesF many f n xs = R) ∧ Aside (wr.ownsRow w.heap.size 24 1 y xs.length ((natV xs).map (Value.int .u64))) ∧ Aside (Below w.heap.size w wr))
  case atStart => exact ⟨398, 2, _, [], rfl, rfl, by omega, by omega, by omega, by simp, HR.out, HOW, Below.refl _ _⟩
  case round =>
    clear HR HOW
    obtain ⟨f, n, y, xs, rfl, rfl, hf, hn2, hgk, hxl, HF, HO, HB⟩ := hrel
    obtain ⟨m, hm⟩ : ∃ m, m = xs.length := ⟨_, rfl⟩
    obtain ⟨a, cap, hy, hcap, _⟩ := ownsRow_form HO.out
    rw [← hm] at hy hxl
    have HML := aside hm
    have HY := aside hy
    have hend : (f = 0 ∨ ¬ m < many) → Aside (OwnPost .u64 24 (natV R) w (.returned y) wr) := fun h => by
      have e : R = xs := by
        rw [← HF.out]
        rcases h with rfl | h
        · rfl
        · cases f with
          | zero => rfl
          | succ f => rw [primesF, if_neg (show ¬ xs.length < many by rw [← hm]; exact h)]
      refine ⟨y, rfl, ?_, HB.out⟩
      rw [e]
      have := HO.out
      rw [show (natV xs).length = xs.length by simp [natV]]
      exact this
    have HEND := aside hend
    clear hend hcap hm
    cases f with
    | zero =>
      have h4 : ¬ (n : Int) < 400 := by omega
      have HE := aside (HEND.out (.inl rfl)).out
      clear hf hn2 hgk hxl hy
      go_wp2_with fail
      go_ret
      exact HE.out
    | succ f =>
      have h4 : (n : Int) < 400 := by omega
      by_cases hlt : m < many
      · have hl : (m : Int) < many := by omega
        have hg1 : f + 1 ≤ gk := hgk
        have HN : Aside (n + 1 + f = 400 ∧ 2 ≤ n + 1 ∧ f < gk ∧ m + 1 ≤ n + 1 ∧ m ≤ n + 1 ∧ n ≤ 400) := ⟨by omega, by omega, by omega, by omega, by omega, by omega⟩
        have HF2 : Aside (primesF many f (n + 1) (if primeB n then xs ++ [n] else xs) = R) := by
          have e := HF.out
          rw [primesF, if_pos (show xs.length < many by rw [← HML.out]; exact hlt)] at e
          exact e
        have HN2 := aside hn2
        have hm64 : many ≤ 1000 := HM.out
        rw [hy]
        clear hf hn2 hgk hxl hg1 HF HEND
        go_upto_region 5 with fail
        clear hl h4 hy
        rw [← HY.out]
        go_wp2_with fail
        refine (prime_any n HN2.out (by have := HN.out; omega) wr).mono ?_
        rintro e w1 ⟨rfl, hw⟩
        rw [hw]
        clear hw w1
        obtain ⟨B, hB⟩ : ∃ B, B = primeB n := ⟨_, rfl⟩
        rw [← hB] at HF2 ⊢
        clear hB
        have hwn : IntKind.u64.wrap ((n : Int) + 1) = ((n + 1 : Nat) : Int) := by rw [IntKind.wrap_u64]; have := HN.out; omega
        cases B with
        | false =>
          go_wp2_with fail
          go_roundg f
          case measure => exact HN.out.2.2.1
          case rel => exact ⟨f, n + 1, _, xs, rfl, rfl, HN.out.1, HN.out.2.1, by omega, by rw [← HML.out]; exact HN.out.2.2.2.2.1, HF2.out, HO, HB⟩
        | true =>
          have hOW := HO.out
          rw [← HML.out] at hOW
          have HOW2 := aside hOW
          have hs2 : w.heap.size ≤ wr.heap.size := HB.out.size
          clear hOW
          go_wp2_with (first
            | (at_builtin; refine wpList_append_one rfl _ _ 152 24 rfl (.int .u64 0) 1 8 Tryz.underlying152 Tryz.infoU64 rfl (by decide) w.heap.size _ m _ rfl (World.ownsRow.alloc HOW2.out _) wr.heap.size [.int .u64 n] rfl (by simp [Value.oneCell']) rfl ?c1 ?c2 ?c3 ?c4 ?_)
            | fail)
          case c1 => intro j u hu; rw [cell_new]; match j, hu with | 0, hu => simpa using hu | j + 1, hu => simp at hu
          case c2 => unfold maxLen; omega
          case c3 => omega
          case c4 => simp; omega
          intro v' w3 hown' hgrow
          have HOW3 : Aside (w3.ownsRow w.heap.size 24 1 v' (xs ++ [n]).length ((natV (xs ++ [n])).map (Value.int .u64))) := by
            rw [Aside, List.length_append, ← HML.out, natV, List.map_append, List.map_append]; exact hown'
          have HB3 : Aside (Below w.heap.size w w3) := below_grown (Nat.le_refl _) HB.out (ownBlock_ge HOW2.out) hgrow
          clear hown' hgrow HOW2
          go_wp2_with fail
          go_roundg f
          case measure => exact HN.out.2.2.1
          case rel => exact ⟨f, n + 1, _, xs ++ [n], rfl, rfl, HN.out.1, HN.out.2.1, by omega, by rw [List.length_append, ← HML.out]; exact HN.out.2.2.2.1, HF2.out, HOW3, HB3⟩
      · have hl : ¬ (m : Int) < many := by omega
        have HE := aside (HEND.out (.inr hlt)).out
        rw [hy] at HE ⊢
        clear hf hn2 hgk hxl
        go_wp2_with fail
        go_ret
        exact HE.out
end Go.Proofs.YtkpmcjfolncmmaaGreatDoor
namespace Go.Proofs.YtkpmcjfolncmmaaGreatDoor
open Go.RowKit
theorem natV_getD (xs : List Nat) (i : Nat) : (natV xs).getD i 0 = ((xs.getD i 0 : Nat) : Int) := by
  rw [List.getD_eq_getElem?_getD, List.getD_eq_getElem?_getD, natV, List.getElem?_map]
  cases xs[i]? <;> rfl
theorem natV_length (xs : List Nat) : (natV xs).length = xs.length := by simp [natV]
theorem natV_snoc (xs : List Nat) (x : Nat) : natV (xs ++ [x]) = natV xs ++ [(x : Int)] := by simp [natV]
def fracsL (many : Nat) (cube : Bool) : List Nat := (primesL many).map fun p => fractionF p cube
set_option maxHeartbeats 2000000 in
set_option maxRecDepth 100000 in
theorem fractions_any (many : Nat) (hm : many ≤ 1000) (cube : Bool) (hb : ∀ p ∈ primesL many, p ≤ 1000000) (hl : (primesL many).length ≤ 1000) (w : World) :
    Calls Tryz.prog 73 #[.int .i64 many, .bool cube] w (OwnPost .u32 133 (natV (fracsL many cube)) w) := by
  obtain ⟨ps, hps⟩ : ∃ ps, ps = primesL many := ⟨_, rfl⟩
  have HPS := aside hps
  rw [fracsL, ← hps]
  rw [← hps] at hb hl
  have HM := aside hm
  have HPB := aside hb
  have HPL := aside hl
  clear hps hm hb hl
  go_enter Tryz.func73, Tryz.ntmps73
  go_wp2_with fail
  refine (primes_any many HM.out w).mono ?_
  rintro e w1 ⟨l, rfl, hown, hb1⟩
  rw [← HPS.out] at hown
  have HB1 := aside hb1
  have HL1 : Aside (RowK .u64 w1 l (natV ps)) := RowK.own hown (natV_length ps ▸ rfl)
  clear hown hb1 HPS
  obtain ⟨n, hn⟩ : ∃ n, n = ps.length := ⟨_, rfl⟩
  have hn1 : n ≤ 1000 := by rw [hn]; exact HPL.out
  have HN := aside hn
  obtain ⟨al, cl, rfl, _, _⟩ := HL1.out
  have hln : (natV ps).length = n := by rw [natV_length, hn]
  rw [hln] at HL1 ⊢
  clear hn hln
  have HOW : Aside (w1.ownsRow w1.heap.size 133 1 (.slice none 0 0) 0 ((natV []).map (Value.int .u32))) := World.ownsRow_nil _ _ _ _
  go_wp2_with fail
  go_loopg [5, 7] n (fun gk v5 v7 wr => ∃ (i : Nat) (y : Value) (xs : List Nat), y = v5 ∧ v7 = .int .i64 i ∧ i ≤ n ∧ n - i ≤ gk ∧ Aside (xs = (ps.take i).map fun p => fractionF p cube) ∧ Aside (wr.ownsRow w1.heap.size 133 1 y i ((natV xs).map (Value.int .u32))) ∧ Aside (Below w1.heap.size w1 wr))
  case atStart => exact ⟨0, _, [], rfl, rfl, by omega, by omega, rfl, HOW, Below.refl _ _⟩
  case round =>
    clear HOW
    obtain ⟨i, y, xs, rfl, rfl, hi, hgk, HX, HO, HB⟩ := hrel
    by_cases hlt : i < n
    · have hki : (i : Int) < n := by omega
      obtain ⟨a', cap', e, _, hj0⟩ := HL1.out.on HB.out
      obtain ⟨lb, lo, ea, hlb, hj⟩ := hj0 (by rw [natV_length, ← HN.out]; omega)
      obtain ⟨ea2, en2, ec2⟩ := Value.slice.inj e
      clear hj0 en2
      subst ec2
      subst ea2
      subst ea
      have d0 := hj i (by rw [natV_length, ← HN.out]; exact hlt)
      rw [natV_getD] at d0
      obtain ⟨p, hp⟩ : ∃ p, p = ps.getD i 0 := ⟨_, rfl⟩
      rw [← hp] at d0
      have hmem : p ∈ ps := by
        have hl : i < ps.length := by rw [← HN.out]; exact hlt
        rw [hp, List.getD_eq_getElem?_getD, List.getElem?_eq_getElem hl]
        exact List.getElem_mem _
      have HPP : Aside (p ≤ 1000000) := HPB.out p hmem
      have HX2 : Aside (xs ++ [fractionF p cube] = (ps.take (i + 1)).map fun p => fractionF p cube) := by
        have hl : i < ps.length := by rw [← HN.out]; exact hlt
        rw [Aside, List.take_add_one, List.map_append, List.getElem?_eq_getElem hl, HX.out, hp, List.getD_eq_getElem?_getD, List.getElem?_eq_getElem hl]
        rfl
      have HM2 : Aside (n - (i + 1) < gk ∧ i + 1 ≤ n) := ⟨by omega, by omega⟩
      have hs2 : w1.heap.size ≤ wr.heap.size := HB.out.size
      clear hj hp hmem e hgk hi
      go_wp2_with fail
      refine (fraction_any p HPP.out cube wr).mono ?_
      rintro e w2 ⟨rfl, hw⟩
      rw [hw]
      clear hw w2 d0
      obtain ⟨q, hq⟩ : ∃ q, q = fractionF p cube := ⟨_, rfl⟩
      rw [← hq] at HX2 ⊢
      clear hq
      go_wp2_with (first
        | (at_builtin; refine wpList_append_one rfl _ _ 135 133 rfl (.int .u32 0) 1 4 Tryz.underlying135 Tryz.infoU32 rfl (by decide) w1.heap.size _ i _ rfl (World.ownsRow.alloc HO.out _) wr.heap.size [.int .u32 q] rfl (by simp [Value.oneCell']) rfl ?c1 ?c2 ?c3 ?c4 ?_)
        | fail)
      case c1 => intro j u hu; rw [cell_new]; match j, hu with | 0, hu => simpa using hu | j + 1, hu => simp at hu
      case c2 => unfold maxLen; omega
      case c3 => omega
      case c4 => simp; omega
      intro v' w3 hown' hgrow
      have HOW3 : Aside (w3.ownsRow w1.heap.size 133 1 v' (i + 1) ((natV (xs ++ [q])).map (Value.int .u32))) := by
        rw [Aside, natV_snoc, List.map_append]; exact hown'
      have HB3 : Aside (Below w1.heap.size w1 w3) := below_grown (Nat.le_refl _) HB.out (ownBlock_ge HO.out) hgrow
      clear hown' hgrow
      go_wp2_with fail
      go_roundg (n - (i + 1))
      case measure => exact HM2.out.1
      case rel => exact ⟨i + 1, _, xs ++ [q], rfl, by go_num, HM2.out.2, by omega, HX2.out, HOW3, HB3⟩
    · have hki : ¬ (i : Int) < n := by omega
      have HE : Aside (OwnPost .u32 133 (natV (ps.map fun p => fractionF p cube)) w (.returned y) wr) := by
        have hin : i = ps.length := by rw [← HN.out]; omega
        have hx := HX.out
        rw [hin, List.take_length] at hx
        refine ⟨y, rfl, ?_, new_trans HB1.out HB.out⟩
        rw [← hx, natV_length, hx, List.length_map, ← hin, ← hx]
        exact ownsRow_mono HO.out HB1.out.size
      clear hlt hgk hi
      go_wp2_with fail
      go_ret
      exact HE.out
theorem primes8 : primesL 8 = [2, 3, 5, 7, 11, 13, 17, 19] := by decide +kernel
theorem primes64 : (∀ p ∈ primesL 64, p ≤ 1000000) ∧ (primesL 64).length = 64 := by decide +kernel
theorem fracs8 : fracsL 8 false = [1779033703, 3144134277, 1013904242, 2773480762, 1359893119, 2600822924, 528734635, 1541459225] := by decide +kernel
theorem fracs64 : fracsL 64 true = [1116352408, 1899447441, 3049323471, 3921009573, 961987163, 1508970993, 2453635748, 2870763221, 3624381080, 310598401, 607225278, 1426881987, 1925078388, 2162078206, 2614888103, 3248222580, 3835390401, 4022224774, 264347078, 604807628, 770255983, 1249150122, 1555081692, 1996064986, 2554220882, 2821834349, 2952996808, 3210313671, 3336571891, 3584528711, 113926993, 338241895, 666307205, 773529912, 1294757372, 1396182291, 1695183700, 1986661051, 2177026350, 2456956037, 2730485921, 2820302411, 3259730800, 3345764771, 3516065817, 3600352804, 4094571909, 275423344, 430227734, 506948616, 659060556, 883997877, 958139571, 1322822218, 1537002063, 1747873779, 1955562222, 2024104815, 2227730452, 2361852424, 2428436474, 2756734187, 3204031479, 3329325298] := by decide +kernel
end Go.Proofs.YtkpmcjfolncmmaaGreatDoor
