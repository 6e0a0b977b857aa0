/- The sum of 256 bits, in plain Lean: words of a block, the rounds, blocks of a text, the digest. The tables are letters. -/
import Derived.Test.YtfnekbfcndkjeaaGreatDoorSAside
import Derived.Deep.RegionWith
set_option linter.all false
namespace Go.Proofs.YtfnekbfcndkjeaaGreatDoor
open Go.RowKit
def rotr (j : Nat) (x : Int) : Int := bits .or .u32 (x * 2 ^ (32 - j) % 4294967296) (x / 2 ^ j)
def rightF (a b c : Nat) (x : Int) : Int := bits .xor .u32 (bits .xor .u32 (rotr a x) (rotr b x)) (rotr c x)
def partF (a b c : Nat) (x : Int) : Int := bits .xor .u32 (bits .xor .u32 (rotr a x) (rotr b x)) (x / 2 ^ c)
end Go.Proofs.YtfnekbfcndkjeaaGreatDoor
namespace Go.Proofs.YtfnekbfcndkjeaaGreatDoor
open Go.RowKit
def byteOf (s : ByteArray) (i : Nat) : Int := ((s.data.toList.getD i 0).toNat : Int)
def or8 (x c : Int) : Int := bits .or .u32 (x * 256 % 4294967296) c
def beTo (B : Nat → Int) (t : Nat) : Nat → Int
  | 0 => 0
  | k + 1 => or8 (beTo B t k) (B (4 * t + k))
def mixW (a b c d : Int) : Int := (partF 17 19 10 a + b + partF 7 18 3 c + d) % 4294967296
def wordsTo (B : Nat → Int) : Nat → List Int
  | 0 => []
  | t + 1 =>
    let l := wordsTo B t
    l ++ [if t < 16 then beTo B t 4 else mixW l[t - 2]! l[t - 7]! l[t - 15]! l[t - 16]!]
def wd (B : Nat → Int) (t : Nat) : Int := (wordsTo B (t + 1))[t]!
structure S8 where
  a : Int
  b : Int
  c : Int
  d : Int
  e : Int
  f : Int
  g : Int
  h : Int
def S8.ok (s : S8) : Prop := (0 ≤ s.a ∧ s.a ≤ 4294967295) ∧ (0 ≤ s.b ∧ s.b ≤ 4294967295) ∧ (0 ≤ s.c ∧ s.c ≤ 4294967295) ∧ (0 ≤ s.d ∧ s.d ≤ 4294967295) ∧ (0 ≤ s.e ∧ s.e ≤ 4294967295) ∧ (0 ≤ s.f ∧ s.f ≤ 4294967295) ∧ (0 ≤ s.g ∧ s.g ≤ 4294967295) ∧ (0 ≤ s.h ∧ s.h ≤ 4294967295)
def one8 (s : S8) (k w : Int) : Int := (s.h + rightF 6 11 25 s.e + bits .xor .u32 s.g (bits .and .u32 s.e (bits .xor .u32 s.f s.g)) + k + w) % 4294967296
def two8 (s : S8) : Int := (rightF 2 13 22 s.a + bits .or .u32 (bits .and .u32 s.a s.b) (bits .and .u32 s.c (bits .or .u32 s.a s.b))) % 4294967296
def step8 (s : S8) (k w : Int) : S8 := ⟨(one8 s k w + two8 s) % 4294967296, s.a, s.b, s.c, (s.d + one8 s k w) % 4294967296, s.e, s.f, s.g⟩
def runTo (K W : Nat → Int) (s : S8) : Nat → S8
  | 0 => s
  | t + 1 => step8 (runTo K W s t) (K t) (W t)
def addS (s x : S8) : S8 := ⟨(s.a + x.a) % 4294967296, (s.b + x.b) % 4294967296, (s.c + x.c) % 4294967296, (s.d + x.d) % 4294967296, (s.e + x.e) % 4294967296, (s.f + x.f) % 4294967296, (s.g + x.g) % 4294967296, (s.h + x.h) % 4294967296⟩
def blockF (K : Nat → Int) (s : S8) (blk : ByteArray) : S8 := addS s (runTo K (wd (byteOf blk)) s 64)
def S8.get (s : S8) : Nat → Int
  | 0 => s.a
  | 1 => s.b
  | 2 => s.c
  | 3 => s.d
  | 4 => s.e
  | 5 => s.f
  | 6 => s.g
  | _ => s.h
def blocksF (K : Nat → Int) (s : S8) (t : ByteArray) : Nat → S8
  | 0 => s
  | n + 1 => blockF K (blocksF K s t n) (t.extract (64 * n) (64 * n + 64))
attribute [irreducible] blockF
end Go.Proofs.YtfnekbfcndkjeaaGreatDoor
