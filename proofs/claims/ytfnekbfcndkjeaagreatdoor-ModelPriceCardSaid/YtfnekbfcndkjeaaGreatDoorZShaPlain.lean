/- The sum of 256 bits, in plain Lean: words of a block, the rounds, blocks of a text, the digest. The tables are letters. -/
import Derived.Test.YtfnekbfcndkjeaaGreatDoorZLate
set_option maxHeartbeats 2000000
set_option maxRecDepth 100000
set_option linter.all false
namespace Go.Proofs.YtfnekbfcndkjeaaGreatDoor
open Go.Proofs.Tryz Go.RowKit
theorem kq {P:Program} {f:FuncId} {args:Array Value} {w:World} {n:Nat} {v:Value}
  (h:Calls P f args (w.drewN n) fun e w'=>e=.returned v/\w.drewN n=w'):Calls P f args (w.drewN n) fun e w''=>e=.returned v/\∃m,w''=w.drewN m:=
 h.mono fun _ _ ⟨he,hm⟩=>⟨he,n,hm.symm⟩
theorem mC (op:BinOp) (a b:Int):0<=bits op .u32 a b/\bits op .u32 a b<=4294967295:=by
 unfold bits
 have h:=wrap_u32_nonneg
 constructor
 ·split <;> first | exact h _ | omega
 ·split <;> first | (simp [IntKind.wrap,IntKind.bits,IntKind.signed];omega) | omega
def cL (j:Nat) (x:Int):Int:=bits .or .u32 (x * 2 ^ (32 - j) % 4294967296) (x / 2 ^ j)
theorem d9 (j:Nat) (x:Int):0<=cL j x/\cL j x<=4294967295:=mC _ _ _
theorem zY (x:Int) (w:World):Calls prog 167 #[.int .u32 x,.int .i64 (-6)] w fun e w'=>e=.returned (.int .u32 (cL 6 x))/\w=w':=by
 have e:bits BinOp.and IntKind.u64 (IntKind.u64.wrap (-6)) 31=26:=by decide
 go_enter func167,ntmps167
 go_wp2
 go_ret
 exact⟨rfl,rfl⟩
theorem vR (x:Int) (w:World):Calls prog 167 #[.int .u32 x,.int .i64 (-11)] w fun e w'=>e=.returned (.int .u32 (cL 11 x))/\w=w':=by
 have e:bits BinOp.and IntKind.u64 (IntKind.u64.wrap (-11)) 31=21:=by decide
 go_enter func167,ntmps167
 go_wp2
 go_ret
 exact⟨rfl,rfl⟩
theorem vS (x:Int) (w:World):Calls prog 167 #[.int .u32 x,.int .i64 (-25)] w fun e w'=>e=.returned (.int .u32 (cL 25 x))/\w=w':=by
 have e:bits BinOp.and IntKind.u64 (IntKind.u64.wrap (-25)) 31=7:=by decide
 go_enter func167,ntmps167
 go_wp2
 go_ret
 exact⟨rfl,rfl⟩
theorem zZ (x:Int) (w:World):Calls prog 167 #[.int .u32 x,.int .i64 (-2)] w fun e w'=>e=.returned (.int .u32 (cL 2 x))/\w=w':=by
 have e:bits BinOp.and IntKind.u64 (IntKind.u64.wrap (-2)) 31=30:=by decide
 go_enter func167,ntmps167
 go_wp2
 go_ret
 exact⟨rfl,rfl⟩
theorem vT (x:Int) (w:World):Calls prog 167 #[.int .u32 x,.int .i64 (-13)] w fun e w'=>e=.returned (.int .u32 (cL 13 x))/\w=w':=by
 have e:bits BinOp.and IntKind.u64 (IntKind.u64.wrap (-13)) 31=19:=by decide
 go_enter func167,ntmps167
 go_wp2
 go_ret
 exact⟨rfl,rfl⟩
theorem vU (x:Int) (w:World):Calls prog 167 #[.int .u32 x,.int .i64 (-22)] w fun e w'=>e=.returned (.int .u32 (cL 22 x))/\w=w':=by
 have e:bits BinOp.and IntKind.u64 (IntKind.u64.wrap (-22)) 31=10:=by decide
 go_enter func167,ntmps167
 go_wp2
 go_ret
 exact⟨rfl,rfl⟩
theorem Ae (x:Int) (w:World):Calls prog 167 #[.int .u32 x,.int .i64 (-17)] w fun e w'=>e=.returned (.int .u32 (cL 17 x))/\w=w':=by
 have e:bits BinOp.and IntKind.u64 (IntKind.u64.wrap (-17)) 31=15:=by decide
 go_enter func167,ntmps167
 go_wp2
 go_ret
 exact⟨rfl,rfl⟩
theorem Af (x:Int) (w:World):Calls prog 167 #[.int .u32 x,.int .i64 (-19)] w fun e w'=>e=.returned (.int .u32 (cL 19 x))/\w=w':=by
 have e:bits BinOp.and IntKind.u64 (IntKind.u64.wrap (-19)) 31=13:=by decide
 go_enter func167,ntmps167
 go_wp2
 go_ret
 exact⟨rfl,rfl⟩
theorem AU (x:Int) (w:World):Calls prog 167 #[.int .u32 x,.int .i64 (-7)] w fun e w'=>e=.returned (.int .u32 (cL 7 x))/\w=w':=by
 have e:bits BinOp.and IntKind.u64 (IntKind.u64.wrap (-7)) 31=25:=by decide
 go_enter func167,ntmps167
 go_wp2
 go_ret
 exact⟨rfl,rfl⟩
theorem Ag (x:Int) (w:World):Calls prog 167 #[.int .u32 x,.int .i64 (-18)] w fun e w'=>e=.returned (.int .u32 (cL 18 x))/\w=w':=by
 have e:bits BinOp.and IntKind.u64 (IntKind.u64.wrap (-18)) 31=14:=by decide
 go_enter func167,ntmps167
 go_wp2
 go_ret
 exact⟨rfl,rfl⟩
theorem tB (x k:Int) (w:World) (hk:k=-6\/k=-11\/k=-25\/k=-2\/k=-13\/k=-22\/k=-17\/k=-19\/k=-7\/k=-18):Calls prog 167 #[.int .u32 x,.int .i64 k] w fun e w'=>e=.returned (.int .u32 (cL k.natAbs x))/\w=w':=by
 rcases hk with rfl | rfl | rfl | rfl | rfl | rfl | rfl | rfl | rfl | rfl
 ·exact zY x w
 ·exact vR x w
 ·exact vS x w
 ·exact zZ x w
 ·exact vT x w
 ·exact vU x w
 ·exact Ae x w
 ·exact Af x w
 ·exact AU x w
 ·exact Ag x w
def jU (a b c:Nat) (x:Int):Int:=bits .xor .u32 (bits .xor .u32 (cL a x) (cL b x)) (cL c x)
theorem mD (a b c:Nat) (x:Int):0<=jU a b c x/\jU a b c x<=4294967295:=mC _ _ _
def ks (a b c:Nat) (x:Int):Int:=bits .xor .u32 (bits .xor .u32 (cL a x) (cL b x)) (x / 2 ^ c)
theorem yG (x:Int) (w:World):Calls prog 166 #[.int .u32 x,.int .i64 6,.int .i64 11,.int .i64 25] w fun e w'=>e=.returned (.int .u32 (jU 6 11 25 x))/\w=w':=by
 have ha:=d9 6 x
 have hb:=d9 11 x
 have hc:=d9 25 x
 go_enter func166,ntmps166
 go_wp2_with fail
 refine (zY _ _).mono ?_
 rintro e w' ⟨rfl,rfl⟩
 go_wp2_with fail
 refine (vR _ _).mono ?_
 rintro e w' ⟨rfl,rfl⟩
 go_wp2_with fail
 refine (vS _ _).mono ?_
 rintro e w' ⟨rfl,rfl⟩
 go_wp2
 go_ret
 exact⟨rfl,rfl⟩
theorem yH (x:Int) (w:World):Calls prog 166 #[.int .u32 x,.int .i64 2,.int .i64 13,.int .i64 22] w fun e w'=>e=.returned (.int .u32 (jU 2 13 22 x))/\w=w':=by
 have ha:=d9 2 x
 have hb:=d9 13 x
 have hc:=d9 22 x
 go_enter func166,ntmps166
 go_wp2_with fail
 refine (zZ _ _).mono ?_
 rintro e w' ⟨rfl,rfl⟩
 go_wp2_with fail
 refine (vT _ _).mono ?_
 rintro e w' ⟨rfl,rfl⟩
 go_wp2_with fail
 refine (vU _ _).mono ?_
 rintro e w' ⟨rfl,rfl⟩
 go_wp2
 go_ret
 exact⟨rfl,rfl⟩
theorem yI (x:Int) (w:World):Calls prog 165 #[.int .u32 x,.int .i64 17,.int .i64 19,.int .i64 10] w fun e w'=>e=.returned (.int .u32 (ks 17 19 10 x))/\∃n,w'=w.drewN n:=by
 have ha:=d9 17 x
 have hb:=d9 19 x
 have ea:IntKind.i64.wrap (-17)=-17:=by decide
 have eb:IntKind.i64.wrap (-19)=-19:=by decide
 go_enter func165,ntmps165
 go_wp2_with fail
 go_quiet ((go_at_call 167;exact kq (tB _ _ _ (by simp))))
 go_wp2
 go_ret
 exact⟨rfl,_,rfl⟩
theorem Ah (x:Int) (w:World):Calls prog 165 #[.int .u32 x,.int .i64 7,.int .i64 18,.int .i64 3] w fun e w'=>e=.returned (.int .u32 (ks 7 18 3 x))/\∃n,w'=w.drewN n:=by
 have ha:=d9 7 x
 have hb:=d9 18 x
 have ea:IntKind.i64.wrap (-7)=-7:=by decide
 have eb:IntKind.i64.wrap (-18)=-18:=by decide
 go_enter func165,ntmps165
 go_wp2_with fail
 go_quiet ((go_at_call 167;exact kq (tB _ _ _ (by simp))))
 go_wp2
 go_ret
 exact⟨rfl,_,rfl⟩
theorem vV (x a b c:Int) (w:World) (h:(a=17/\b=19/\c=10)\/(a=7/\b=18/\c=3)):Calls prog 165 #[.int .u32 x,.int .i64 a,.int .i64 b,.int .i64 c] w fun e w'=>e=.returned (.int .u32 (ks a.natAbs b.natAbs c.natAbs x))/\∃n,w'=w.drewN n:=by
 rcases h with ⟨rfl,rfl,rfl⟩ | ⟨rfl,rfl,rfl⟩
 ·exact yI x w
 ·exact Ah x w
theorem oy (x a b c:Int) (w:World) (h:(a=6/\b=11/\c=25)\/(a=2/\b=13/\c=22)):Calls prog 166 #[.int .u32 x,.int .i64 a,.int .i64 b,.int .i64 c] w fun e w'=>e=.returned (.int .u32 (jU a.natAbs b.natAbs c.natAbs x))/\w=w':=by
 rcases h with ⟨rfl,rfl,rfl⟩ | ⟨rfl,rfl,rfl⟩
 ·exact yG x w
 ·exact yH x w
def bf (s:ByteArray) (i:Nat):Int:=((s.data.toList.getD i 0).toNat:Int)
theorem li (s:ByteArray) (i:Nat):0<=bf s i/\bf s i<=255:=by
 unfold bf
 have:=(s.data.toList.getD i 0).toNat_lt
 omega
theorem i6 (s:ByteArray) (a b j:Nat) (h:a + j<b):bf (s.extract a b) j=bf s (a + j):=by
 unfold bf
 congr 2
 simp only[List.getD_eq_getElem?_getD]
 congr 1
 rw[ByteArray.data_extract,Array.toList_extract,List.extract_eq_take_drop,List.getElem?_take_of_lt (by omega),List.getElem?_drop]
def yJ (x c:Int):Int:=bits .or .u32 (x * 256 % 4294967296) c
def jV (B:Nat->Int) (t:Nat):Nat->Int
 | 0=>0
 | k + 1=>yJ (jV B t k) (B (4 * t + k))
def rK (a b c d:Int):Int:=(ks 17 19 10 a + b + ks 7 18 3 c + d) % 4294967296
theorem vW (B:Nat->Int) (t:Nat):∀k,0<=jV B t k/\jV B t k<=4294967295
 | 0=>by simp[jV]
 | k + 1=>by unfold jV yJ;exact mC _ _ _
def bJ (B:Nat->Int):Nat->List Int
 | 0=>[]
 | t + 1=>
  let l:=bJ B t
  l++[if t<16 then jV B t 4 else rK l[t - 2]! l[t - 7]! l[t - 15]! l[t - 16]!]
theorem bE (B:Nat->Int):∀t,(bJ B t).length=t
 | 0=>rfl
 | t + 1=>by simp[bJ,bE B t]
def wd (B:Nat->Int) (t:Nat):Int:=(bJ B (t + 1))[t]!
theorem dT (B:Nat->Int):∀t j,j<t->(bJ B t)[j]! =wd B j
 | 0,j,h=>by omega
 | t + 1,j,h=>by
  by_cases e:j=t
  ·subst e;rfl
  ·have hl:=bE B t
   have:=dT B t j (by omega)
   rw[<-this]
   simp only[bJ]
   rw[getElem!_pos _ j (by simp[hl];omega),getElem!_pos (bJ B t) j (by omega),List.getElem_append_left (by omega)]
theorem rL (B:Nat->Int) (t:Nat) (h:t<16):wd B t=jV B t 4:=by
 have hl:=bE B t
 unfold wd
 simp only[bJ]
 rw[getElem!_pos _ t (by simp[hl]),List.getElem_append_right (by omega)]
 simp[hl,h]
theorem pj (B:Nat->Int) (t:Nat) (h:16<=t):wd B t=rK (wd B (t - 2)) (wd B (t - 7)) (wd B (t - 15)) (wd B (t - 16)):=by
 have hl:=bE B t
 rw[<-dT B t (t - 2) (by omega),<-dT B t (t - 7) (by omega),<-dT B t (t - 15) (by omega),<-dT B t (t - 16) (by omega)]
 unfold wd
 simp only[bJ]
 rw[getElem!_pos (bJ B t++_) t (by simp[hl]),List.getElem_append_right (by omega)]
 simp[hl,show ¬t<16 by omega]
theorem Ai (B:Nat->Int) (t:Nat):0<=wd B t/\wd B t<=4294967295:=by
 by_cases h:t<16
 ·rw[rL B t h];exact vW B t 4
 ·rw[pj B t (by omega)];unfold rK;omega
structure S8 where
 a:Int
 b:Int
 c:Int
 d:Int
 e:Int
 f:Int
 g:Int
 h:Int
def S8.ok (s:S8):Prop:=(0<=s.a/\s.a<=4294967295)/\(0<=s.b/\s.b<=4294967295)/\(0<=s.c/\s.c<=4294967295)/\(0<=s.d/\s.d<=4294967295)/\(0<=s.e/\s.e<=4294967295)/\(0<=s.f/\s.f<=4294967295)/\(0<=s.g/\s.g<=4294967295)/\(0<=s.h/\s.h<=4294967295)
def vX (s:S8) (k w:Int):Int:=(s.h + jU 6 11 25 s.e + bits .xor .u32 s.g (bits .and .u32 s.e (bits .xor .u32 s.f s.g)) + k + w) % 4294967296
def yK (s:S8):Int:=(jU 2 13 22 s.a + bits .or .u32 (bits .and .u32 s.a s.b) (bits .and .u32 s.c (bits .or .u32 s.a s.b))) % 4294967296
def i7 (s:S8) (k w:Int):S8:=⟨(vX s k w + yK s) % 4294967296,s.a,s.b,s.c,(s.d + vX s k w) % 4294967296,s.e,s.f,s.g⟩
def mF (K W:Nat->Int) (s:S8):Nat->S8
 | 0=>s
 | t + 1=>i7 (mF K W s t) (K t) (W t)
theorem vY (s:S8) (k w:Int) (h:s.ok):(i7 s k w).ok:=by
 obtain⟨ha,hb,hc,hd,he,hf,hg,hh⟩:=h
 refine⟨?_,ha,hb,hc,?_,he,hf,hg⟩ <;> (simp only[i7];omega)
theorem mG (K W:Nat->Int) (s:S8) (h:s.ok):∀t,(mF K W s t).ok
 | 0=>h
 | t + 1=>vY _ _ _ (mG K W s h t)
def pk (s x:S8):S8:=⟨(s.a + x.a) % 4294967296,(s.b + x.b) % 4294967296,(s.c + x.c) % 4294967296,(s.d + x.d) % 4294967296,(s.e + x.e) % 4294967296,(s.f + x.f) % 4294967296,(s.g + x.g) % 4294967296,(s.h + x.h) % 4294967296⟩
theorem yL (s x:S8):(pk s x).ok:=by
 unfold pk S8.ok
 refine⟨?_,?_,?_,?_,?_,?_,?_,?_⟩ <;> (simp only;omega)
def em (K:Nat->Int) (s:S8) (blk:ByteArray):S8:=pk s (mF K (wd (bf blk)) s 64)
def S8.get (s:S8):Nat->Int
 | 0=>s.a
 | 1=>s.b
 | 2=>s.c
 | 3=>s.d
 | 4=>s.e
 | 5=>s.f
 | 6=>s.g
 | _=>s.h
theorem qe (s x:S8):∀i,i<8->(pk s x).get i=(s.get i + x.get i) % 4294967296
 | 0,_ | 1,_ | 2,_ | 3,_ | 4,_ | 5,_ | 6,_ | 7,_=>rfl
 | _ + 8,h=>by omega
def bN (K:Nat->Int) (s:S8) (t:ByteArray):Nat->S8
 | 0=>s
 | n + 1=>em K (bN K s t n) (t.extract (64 * n) (64 * n + 64))
theorem t9 (K:Nat->Int) (s:S8) (b:ByteArray):(em K s b).ok:=yL _ _
theorem oz (K:Nat->Int) (st:S8) (s:ByteArray) (n:Nat) (hn:n=64):pk st (mF K (wd (bf s)) st n)=em K st s:=by
 subst hn
 unfold em
 exact Eq.refl _
attribute [irreducible] em
theorem jW (K:Nat->Int) (s:S8) (t:ByteArray) (h:s.ok):∀n,(bN K s t n).ok
 | 0=>h
 | _ + 1=>t9 _ _ _
