/- Words of 32 bits: turned; sha.right and sha.part. -/
import Derived.Test.YtkpmcjfolncmmaaGreatDoorSRoot
import Derived.Deep.RegionWith
set_option linter.all false
namespace Go.Proofs.YtkpmcjfolncmmaaGreatDoor
open Go.RowKit
theorem quiet_eq {P : Program} {f : FuncId} {args : Array Value} {w : World} {n : Nat} {v : Value}
    (h : Calls P f args (w.drewN n) fun e w' => e = .returned v ∧ w.drewN n = w') : Calls P f args (w.drewN n) fun e w'' => e = .returned v ∧ ∃ m, w'' = w.drewN m :=
  h.mono fun _ _ ⟨he, hm⟩ => ⟨he, n, hm.symm⟩
theorem bits_u32 (op : BinOp) (a b : Int) : 0 ≤ bits op .u32 a b ∧ bits op .u32 a b ≤ 4294967295 := by
  unfold bits
  have h := wrap_u32_nonneg
  constructor
  · split <;> first | exact h _ | omega
  · split <;> first | (simp [IntKind.wrap, IntKind.bits, IntKind.signed]; omega) | omega
def rotr (j : Nat) (x : Int) : Int := bits .or .u32 (x * 2 ^ (32 - j) % 4294967296) (x / 2 ^ j)
theorem rotr_u32 (j : Nat) (x : Int) : 0 ≤ rotr j x ∧ rotr j x ≤ 4294967295 := bits_u32 _ _ _
set_option maxHeartbeats 1000000 in
theorem rot_6 (x : Int) (w : World) : Calls Tryz.prog 110 #[.int .u32 x, .int .i64 (-6)] w fun e w' => e = .returned (.int .u32 (rotr 6 x)) ∧ w = w' := by
  have e : bits BinOp.and IntKind.u64 (IntKind.u64.wrap (-6)) 31 = 26 := by decide
  go_enter Tryz.func110, Tryz.ntmps110
  go_wp2
  go_ret
  exact ⟨rfl, rfl⟩
set_option maxHeartbeats 1000000 in
theorem rot_11 (x : Int) (w : World) : Calls Tryz.prog 110 #[.int .u32 x, .int .i64 (-11)] w fun e w' => e = .returned (.int .u32 (rotr 11 x)) ∧ w = w' := by
  have e : bits BinOp.and IntKind.u64 (IntKind.u64.wrap (-11)) 31 = 21 := by decide
  go_enter Tryz.func110, Tryz.ntmps110
  go_wp2
  go_ret
  exact ⟨rfl, rfl⟩
set_option maxHeartbeats 1000000 in
theorem rot_25 (x : Int) (w : World) : Calls Tryz.prog 110 #[.int .u32 x, .int .i64 (-25)] w fun e w' => e = .returned (.int .u32 (rotr 25 x)) ∧ w = w' := by
  have e : bits BinOp.and IntKind.u64 (IntKind.u64.wrap (-25)) 31 = 7 := by decide
  go_enter Tryz.func110, Tryz.ntmps110
  go_wp2
  go_ret
  exact ⟨rfl, rfl⟩
set_option maxHeartbeats 1000000 in
theorem rot_2 (x : Int) (w : World) : Calls Tryz.prog 110 #[.int .u32 x, .int .i64 (-2)] w fun e w' => e = .returned (.int .u32 (rotr 2 x)) ∧ w = w' := by
  have e : bits BinOp.and IntKind.u64 (IntKind.u64.wrap (-2)) 31 = 30 := by decide
  go_enter Tryz.func110, Tryz.ntmps110
  go_wp2
  go_ret
  exact ⟨rfl, rfl⟩
set_option maxHeartbeats 1000000 in
theorem rot_13 (x : Int) (w : World) : Calls Tryz.prog 110 #[.int .u32 x, .int .i64 (-13)] w fun e w' => e = .returned (.int .u32 (rotr 13 x)) ∧ w = w' := by
  have e : bits BinOp.and IntKind.u64 (IntKind.u64.wrap (-13)) 31 = 19 := by decide
  go_enter Tryz.func110, Tryz.ntmps110
  go_wp2
  go_ret
  exact ⟨rfl, rfl⟩
set_option maxHeartbeats 1000000 in
theorem rot_22 (x : Int) (w : World) : Calls Tryz.prog 110 #[.int .u32 x, .int .i64 (-22)] w fun e w' => e = .returned (.int .u32 (rotr 22 x)) ∧ w = w' := by
  have e : bits BinOp.and IntKind.u64 (IntKind.u64.wrap (-22)) 31 = 10 := by decide
  go_enter Tryz.func110, Tryz.ntmps110
  go_wp2
  go_ret
  exact ⟨rfl, rfl⟩
set_option maxHeartbeats 1000000 in
theorem rot_17 (x : Int) (w : World) : Calls Tryz.prog 110 #[.int .u32 x, .int .i64 (-17)] w fun e w' => e = .returned (.int .u32 (rotr 17 x)) ∧ w = w' := by
  have e : bits BinOp.and IntKind.u64 (IntKind.u64.wrap (-17)) 31 = 15 := by decide
  go_enter Tryz.func110, Tryz.ntmps110
  go_wp2
  go_ret
  exact ⟨rfl, rfl⟩
set_option maxHeartbeats 1000000 in
theorem rot_19 (x : Int) (w : World) : Calls Tryz.prog 110 #[.int .u32 x, .int .i64 (-19)] w fun e w' => e = .returned (.int .u32 (rotr 19 x)) ∧ w = w' := by
  have e : bits BinOp.and IntKind.u64 (IntKind.u64.wrap (-19)) 31 = 13 := by decide
  go_enter Tryz.func110, Tryz.ntmps110
  go_wp2
  go_ret
  exact ⟨rfl, rfl⟩
set_option maxHeartbeats 1000000 in
theorem rot_7 (x : Int) (w : World) : Calls Tryz.prog 110 #[.int .u32 x, .int .i64 (-7)] w fun e w' => e = .returned (.int .u32 (rotr 7 x)) ∧ w = w' := by
  have e : bits BinOp.and IntKind.u64 (IntKind.u64.wrap (-7)) 31 = 25 := by decide
  go_enter Tryz.func110, Tryz.ntmps110
  go_wp2
  go_ret
  exact ⟨rfl, rfl⟩
set_option maxHeartbeats 1000000 in
theorem rot_18 (x : Int) (w : World) : Calls Tryz.prog 110 #[.int .u32 x, .int .i64 (-18)] w fun e w' => e = .returned (.int .u32 (rotr 18 x)) ∧ w = w' := by
  have e : bits BinOp.and IntKind.u64 (IntKind.u64.wrap (-18)) 31 = 14 := by decide
  go_enter Tryz.func110, Tryz.ntmps110
  go_wp2
  go_ret
  exact ⟨rfl, rfl⟩
theorem rot_any (x k : Int) (w : World) (hk : k = -6 ∨ k = -11 ∨ k = -25 ∨ k = -2 ∨ k = -13 ∨ k = -22 ∨ k = -17 ∨ k = -19 ∨ k = -7 ∨ k = -18) : Calls Tryz.prog 110 #[.int .u32 x, .int .i64 k] w fun e w' => e = .returned (.int .u32 (rotr k.natAbs x)) ∧ w = w' := by
  rcases hk with rfl | rfl | rfl | rfl | rfl | rfl | rfl | rfl | rfl | rfl
  · exact rot_6 x w
  · exact rot_11 x w
  · exact rot_25 x w
  · exact rot_2 x w
  · exact rot_13 x w
  · exact rot_22 x w
  · exact rot_17 x w
  · exact rot_19 x w
  · exact rot_7 x w
  · exact rot_18 x w
def rightF (a b c : Nat) (x : Int) : Int := bits .xor .u32 (bits .xor .u32 (rotr a x) (rotr b x)) (rotr c x)
theorem rightF_u32 (a b c : Nat) (x : Int) : 0 ≤ rightF a b c x ∧ rightF a b c x ≤ 4294967295 := bits_u32 _ _ _
def partF (a b c : Nat) (x : Int) : Int := bits .xor .u32 (bits .xor .u32 (rotr a x) (rotr b x)) (x / 2 ^ c)
set_option maxHeartbeats 1000000 in
theorem right_6 (x : Int) (w : World) : Calls Tryz.prog 109 #[.int .u32 x, .int .i64 6, .int .i64 11, .int .i64 25] w fun e w' => e = .returned (.int .u32 (rightF 6 11 25 x)) ∧ w = w' := by
  have ha := rotr_u32 6 x
  have hb := rotr_u32 11 x
  have hc := rotr_u32 25 x
  go_enter Tryz.func109, Tryz.ntmps109
  go_wp2_with fail
  refine (rot_6 _ _).mono ?_
  rintro e w' ⟨rfl, rfl⟩
  go_wp2_with fail
  refine (rot_11 _ _).mono ?_
  rintro e w' ⟨rfl, rfl⟩
  go_wp2_with fail
  refine (rot_25 _ _).mono ?_
  rintro e w' ⟨rfl, rfl⟩
  go_wp2
  go_ret
  exact ⟨rfl, rfl⟩
set_option maxHeartbeats 1000000 in
theorem right_2 (x : Int) (w : World) : Calls Tryz.prog 109 #[.int .u32 x, .int .i64 2, .int .i64 13, .int .i64 22] w fun e w' => e = .returned (.int .u32 (rightF 2 13 22 x)) ∧ w = w' := by
  have ha := rotr_u32 2 x
  have hb := rotr_u32 13 x
  have hc := rotr_u32 22 x
  go_enter Tryz.func109, Tryz.ntmps109
  go_wp2_with fail
  refine (rot_2 _ _).mono ?_
  rintro e w' ⟨rfl, rfl⟩
  go_wp2_with fail
  refine (rot_13 _ _).mono ?_
  rintro e w' ⟨rfl, rfl⟩
  go_wp2_with fail
  refine (rot_22 _ _).mono ?_
  rintro e w' ⟨rfl, rfl⟩
  go_wp2
  go_ret
  exact ⟨rfl, rfl⟩
set_option maxHeartbeats 2000000 in
set_option maxRecDepth 100000 in
theorem part_17 (x : Int) (w : World) : Calls Tryz.prog 108 #[.int .u32 x, .int .i64 17, .int .i64 19, .int .i64 10] w fun e w' => e = .returned (.int .u32 (partF 17 19 10 x)) ∧ ∃ n, w' = w.drewN n := by
  have ha := rotr_u32 17 x
  have hb := rotr_u32 19 x
  have ea : IntKind.i64.wrap (-17) = -17 := by decide
  have eb : IntKind.i64.wrap (-19) = -19 := by decide
  go_enter Tryz.func108, Tryz.ntmps108
  go_wp2_with fail
  go_quiet ((go_at_call 110; exact quiet_eq (rot_any _ _ _ (by simp))))
  go_wp2
  go_ret
  exact ⟨rfl, _, rfl⟩
set_option maxHeartbeats 2000000 in
set_option maxRecDepth 100000 in
theorem part_7 (x : Int) (w : World) : Calls Tryz.prog 108 #[.int .u32 x, .int .i64 7, .int .i64 18, .int .i64 3] w fun e w' => e = .returned (.int .u32 (partF 7 18 3 x)) ∧ ∃ n, w' = w.drewN n := by
  have ha := rotr_u32 7 x
  have hb := rotr_u32 18 x
  have ea : IntKind.i64.wrap (-7) = -7 := by decide
  have eb : IntKind.i64.wrap (-18) = -18 := by decide
  go_enter Tryz.func108, Tryz.ntmps108
  go_wp2_with fail
  go_quiet ((go_at_call 110; exact quiet_eq (rot_any _ _ _ (by simp))))
  go_wp2
  go_ret
  exact ⟨rfl, _, rfl⟩
theorem part_any (x a b c : Int) (w : World) (h : (a = 17 ∧ b = 19 ∧ c = 10) ∨ (a = 7 ∧ b = 18 ∧ c = 3)) : Calls Tryz.prog 108 #[.int .u32 x, .int .i64 a, .int .i64 b, .int .i64 c] w fun e w' => e = .returned (.int .u32 (partF a.natAbs b.natAbs c.natAbs x)) ∧ ∃ n, w' = w.drewN n := by
  rcases h with ⟨rfl, rfl, rfl⟩ | ⟨rfl, rfl, rfl⟩
  · exact part_17 x w
  · exact part_7 x w
theorem right_any (x a b c : Int) (w : World) (h : (a = 6 ∧ b = 11 ∧ c = 25) ∨ (a = 2 ∧ b = 13 ∧ c = 22)) : Calls Tryz.prog 109 #[.int .u32 x, .int .i64 a, .int .i64 b, .int .i64 c] w fun e w' => e = .returned (.int .u32 (rightF a.natAbs b.natAbs c.natAbs x)) ∧ w = w' := by
  rcases h with ⟨rfl, rfl, rfl⟩ | ⟨rfl, rfl, rfl⟩
  · exact right_6 x w
  · exact right_2 x w
end Go.Proofs.YtkpmcjfolncmmaaGreatDoor
namespace Go.Proofs.YtkpmcjfolncmmaaGreatDoor
open Go.RowKit
def byteOf (s : ByteArray) (i : Nat) : Int := ((s.data.toList.getD i 0).toNat : Int)
theorem byteOf_u8 (s : ByteArray) (i : Nat) : 0 ≤ byteOf s i ∧ byteOf s i ≤ 255 := by
  unfold byteOf
  have := (s.data.toList.getD i 0).toNat_lt
  omega
theorem byteOf_extract (s : ByteArray) (a b j : Nat) (h : a + j < b) : byteOf (s.extract a b) j = byteOf s (a + j) := by
  unfold byteOf
  congr 2
  simp only [List.getD_eq_getElem?_getD]
  congr 1
  rw [ByteArray.data_extract, Array.toList_extract, List.extract_eq_take_drop, List.getElem?_take_of_lt (by omega), List.getElem?_drop]
def or8 (x c : Int) : Int := bits .or .u32 (x * 256 % 4294967296) c
def beTo (B : Nat → Int) (t : Nat) : Nat → Int
  | 0 => 0
  | k + 1 => or8 (beTo B t k) (B (4 * t + k))
def mixW (a b c d : Int) : Int := (partF 17 19 10 a + b + partF 7 18 3 c + d) % 4294967296
theorem beTo_u32 (B : Nat → Int) (t : Nat) : ∀ k, 0 ≤ beTo B t k ∧ beTo B t k ≤ 4294967295
  | 0 => by simp [beTo]
  | k + 1 => by unfold beTo or8; exact bits_u32 _ _ _
def wordsTo (B : Nat → Int) : Nat → List Int
  | 0 => []
  | t + 1 =>
    let l := wordsTo B t
    l ++ [if t < 16 then beTo B t 4 else mixW l[t - 2]! l[t - 7]! l[t - 15]! l[t - 16]!]
theorem length_wordsTo (B : Nat → Int) : ∀ t, (wordsTo B t).length = t
  | 0 => rfl
  | t + 1 => by simp [wordsTo, length_wordsTo B t]
def wd (B : Nat → Int) (t : Nat) : Int := (wordsTo B (t + 1))[t]!
theorem get_wordsTo (B : Nat → Int) : ∀ t j, j < t → (wordsTo B t)[j]! = wd B j
  | 0, j, h => by omega
  | t + 1, j, h => by
    by_cases e : j = t
    · subst e; rfl
    · have hl := length_wordsTo B t
      have := get_wordsTo B t j (by omega)
      rw [← this]
      simp only [wordsTo]
      rw [getElem!_pos _ j (by simp [hl]; omega), getElem!_pos (wordsTo B t) j (by omega), List.getElem_append_left (by omega)]
theorem wd_low (B : Nat → Int) (t : Nat) (h : t < 16) : wd B t = beTo B t 4 := by
  have hl := length_wordsTo B t
  unfold wd
  simp only [wordsTo]
  rw [getElem!_pos _ t (by simp [hl]), List.getElem_append_right (by omega)]
  simp [hl, h]
theorem wd_high (B : Nat → Int) (t : Nat) (h : 16 ≤ t) : wd B t = mixW (wd B (t - 2)) (wd B (t - 7)) (wd B (t - 15)) (wd B (t - 16)) := by
  have hl := length_wordsTo B t
  rw [← get_wordsTo B t (t - 2) (by omega), ← get_wordsTo B t (t - 7) (by omega), ← get_wordsTo B t (t - 15) (by omega), ← get_wordsTo B t (t - 16) (by omega)]
  unfold wd
  simp only [wordsTo]
  rw [getElem!_pos (wordsTo B t ++ _) t (by simp [hl]), List.getElem_append_right (by omega)]
  simp [hl, show ¬ t < 16 by omega]
theorem wd_u32 (B : Nat → Int) (t : Nat) : 0 ≤ wd B t ∧ wd B t ≤ 4294967295 := by
  by_cases h : t < 16
  · rw [wd_low B t h]; exact beTo_u32 B t 4
  · rw [wd_high B t (by omega)]; unfold mixW; omega
structure S8 where
  a : Int
  b : Int
  c : Int
  d : Int
  e : Int
  f : Int
  g : Int
  h : Int
def S8.ok (s : S8) : Prop := (0 ≤ s.a ∧ s.a ≤ 4294967295) ∧ (0 ≤ s.b ∧ s.b ≤ 4294967295) ∧ (0 ≤ s.c ∧ s.c ≤ 4294967295) ∧ (0 ≤ s.d ∧ s.d ≤ 4294967295) ∧ (0 ≤ s.e ∧ s.e ≤ 4294967295) ∧ (0 ≤ s.f ∧ s.f ≤ 4294967295) ∧ (0 ≤ s.g ∧ s.g ≤ 4294967295) ∧ (0 ≤ s.h ∧ s.h ≤ 4294967295)
def one8 (s : S8) (k w : Int) : Int := (s.h + rightF 6 11 25 s.e + bits .xor .u32 s.g (bits .and .u32 s.e (bits .xor .u32 s.f s.g)) + k + w) % 4294967296
def two8 (s : S8) : Int := (rightF 2 13 22 s.a + bits .or .u32 (bits .and .u32 s.a s.b) (bits .and .u32 s.c (bits .or .u32 s.a s.b))) % 4294967296
def step8 (s : S8) (k w : Int) : S8 := ⟨(one8 s k w + two8 s) % 4294967296, s.a, s.b, s.c, (s.d + one8 s k w) % 4294967296, s.e, s.f, s.g⟩
def runTo (K W : Nat → Int) (s : S8) : Nat → S8
  | 0 => s
  | t + 1 => step8 (runTo K W s t) (K t) (W t)
theorem step8_ok (s : S8) (k w : Int) (h : s.ok) : (step8 s k w).ok := by
  obtain ⟨ha, hb, hc, hd, he, hf, hg, hh⟩ := h
  refine ⟨?_, ha, hb, hc, ?_, he, hf, hg⟩ <;> (simp only [step8]; omega)
theorem runTo_ok (K W : Nat → Int) (s : S8) (h : s.ok) : ∀ t, (runTo K W s t).ok
  | 0 => h
  | t + 1 => step8_ok _ _ _ (runTo_ok K W s h t)
def addS (s x : S8) : S8 := ⟨(s.a + x.a) % 4294967296, (s.b + x.b) % 4294967296, (s.c + x.c) % 4294967296, (s.d + x.d) % 4294967296, (s.e + x.e) % 4294967296, (s.f + x.f) % 4294967296, (s.g + x.g) % 4294967296, (s.h + x.h) % 4294967296⟩
theorem addS_ok (s x : S8) : (addS s x).ok := by
  unfold addS S8.ok
  refine ⟨?_, ?_, ?_, ?_, ?_, ?_, ?_, ?_⟩ <;> (simp only; omega)
def blockF (K : Nat → Int) (s : S8) (blk : ByteArray) : S8 := addS s (runTo K (wd (byteOf blk)) s 64)
def S8.get (s : S8) : Nat → Int
  | 0 => s.a
  | 1 => s.b
  | 2 => s.c
  | 3 => s.d
  | 4 => s.e
  | 5 => s.f
  | 6 => s.g
  | _ => s.h
theorem get_addS (s x : S8) : ∀ i, i < 8 → (addS s x).get i = (s.get i + x.get i) % 4294967296
  | 0, _ | 1, _ | 2, _ | 3, _ | 4, _ | 5, _ | 6, _ | 7, _ => rfl
  | _ + 8, h => by omega
def blocksF (K : Nat → Int) (s : S8) (t : ByteArray) : Nat → S8
  | 0 => s
  | n + 1 => blockF K (blocksF K s t n) (t.extract (64 * n) (64 * n + 64))
theorem blockF_ok (K : Nat → Int) (s : S8) (b : ByteArray) : (blockF K s b).ok := addS_ok _ _
theorem blockF_eq (K : Nat → Int) (st : S8) (s : ByteArray) (n : Nat) (hn : n = 64) : addS st (runTo K (wd (byteOf s)) st n) = blockF K st s := by
  subst hn
  unfold blockF
  exact Eq.refl _
attribute [irreducible] blockF
theorem blocksF_ok (K : Nat → Int) (s : S8) (t : ByteArray) (h : s.ok) : ∀ n, (blocksF K s t n).ok
  | 0 => h
  | _ + 1 => blockF_ok _ _ _
end Go.Proofs.YtkpmcjfolncmmaaGreatDoor
