/- The document's sum: words, plain; rotr, walked. Printed by wip/gen/hsh1.py. -/
import Derived.Test.YtfnekbfcndkjeaaGreatDoorZShaPlain
set_option maxHeartbeats 1000000
set_option linter.all false
namespace Go.Proofs.YtfnekbfcndkjeaaGreatDoor
open Go.Proofs.Tryz Go.RowKit
theorem cP (a b:Int):bits .or .u32 a b=bits .or .u32 b a:=by
 have e:∀a b,bits .or .u32 a b=IntKind.u32.wrap ((BitVec.ofInt 32 a ||| BitVec.ofInt 32 b).toNat:Int):=fun _ _=>rfl
 rw[e,e,BitVec.or_comm]
theorem j9 (x:Int) (h:0<=x/\x<=4294967295):∃n:Nat,x=n/\n<4294967296:=⟨x.toNat,by omega,by omega⟩
theorem tY (e i:Nat) (he:e<4294967296):(4294967295 - e).testBit i=(decide (i<32) &&!e.testBit i):=by
 have:=Nat.testBit_two_pow_sub_succ (x:=e) (n:=32) (by simpa using he) i
 rw[show 2 ^ 32 - (e + 1)=4294967295 - e by omega] at this
 exact this
theorem kR (e i:Nat) (he:e<4294967296) (hi:¬i<32):e.testBit i=false:=by
 apply Nat.testBit_lt_two_pow
 exact Nat.lt_of_lt_of_le he (by have:=Nat.pow_le_pow_right (show 0<2 by decide) (show 32<=i by omega);simpa using this)
theorem AK (e f g:Nat) (he:e<4294967296) (hf:f<4294967296) (hg:g<4294967296):(e &&& f) ^^^ ((4294967295 - e) &&& g)=g ^^^ (e &&& (f ^^^ g)):=by
 apply Nat.eq_of_testBit_eq
 intro i
 simp only[Nat.testBit_xor,Nat.testBit_and,tY e i he]
 by_cases hi:i<32
 ·simp only[hi,decide_true,Bool.true_and]
  cases e.testBit i <;> cases f.testBit i <;> cases g.testBit i <;> rfl
 ·rw[kR e i he hi,kR f i hf hi,kR g i hg hi]
  simp
theorem zw (a b c:Nat):((a &&& b) ^^^ (a &&& c)) ^^^ (b &&& c)=(a &&& b) ||| (c &&& (a ||| b)):=by
 apply Nat.eq_of_testBit_eq
 intro i
 simp only[Nat.testBit_xor,Nat.testBit_and,Nat.testBit_or]
 cases a.testBit i <;> cases b.testBit i <;> cases c.testBit i <;> rfl
theorem ig (a b:Nat) (h:a<4294967296):a &&& b<4294967296:=Nat.lt_of_le_of_lt Nat.and_le_left h
theorem xO (a b:Nat) (h:a<4294967296) (h2:b<4294967296):a ^^^ b<4294967296:=Nat.xor_lt_two_pow (n:=32) h h2
theorem tZ (a b:Nat) (h:a<4294967296) (h2:b<4294967296):a ||| b<4294967296:=Nat.or_lt_two_pow (n:=32) h h2
theorem A4 (e f g:Int) (he:0<=e/\e<=4294967295) (hf:0<=f/\f<=4294967295) (hg:0<=g/\g<=4294967295):
  bits .xor .u32 (bits .and .u32 e f) (bits .and .u32 (4294967295 - e) g)=bits .xor .u32 g (bits .and .u32 e (bits .xor .u32 f g)):=by
 obtain⟨e,rfl,ke⟩:=j9 e he
 obtain⟨f,rfl,kf⟩:=j9 f hf
 obtain⟨g,rfl,kg⟩:=j9 g hg
 rw[show (4294967295:Int) - e=((4294967295 - e:Nat):Int) by omega,u32_and_nat e f ke kf,u32_and_nat _ g (by omega) kg,u32_xor_nat _ _ (ig _ _ ke) (ig _ _ (by omega)),u32_xor_nat f g kf kg,u32_and_nat e _ ke (xO _ _ kf kg),u32_xor_nat g _ kg (ig _ _ ke),AK e f g ke kf kg]
theorem AL (a b c:Int) (ha:0<=a/\a<=4294967295) (hb:0<=b/\b<=4294967295) (hc:0<=c/\c<=4294967295):
  bits .xor .u32 (bits .xor .u32 (bits .and .u32 a b) (bits .and .u32 a c)) (bits .and .u32 b c)=bits .or .u32 (bits .and .u32 a b) (bits .and .u32 c (bits .or .u32 a b)):=by
 obtain⟨a,rfl,ka⟩:=j9 a ha
 obtain⟨b,rfl,kb⟩:=j9 b hb
 obtain⟨c,rfl,kc⟩:=j9 c hc
 rw[u32_and_nat a b ka kb,u32_and_nat a c ka kc,u32_and_nat b c kb kc,u32_xor_nat _ _ (ig _ _ ka) (ig _ _ ka),u32_xor_nat _ _ (xO _ _ (ig _ _ ka) (ig _ _ ka)) (ig _ _ kb),u32_or_nat a b ka kb,u32_and_nat c _ kc (tZ _ _ ka kb),u32_or_nat _ _ (ig _ _ ka) (ig _ _ kc),zw]
theorem pT (a b i:Nat) (hb:b<2 ^ i):(a * 2 ^ i) ||| b=a * 2 ^ i + b:=by
 rw[<-Nat.shiftLeft_eq,Nat.shiftLeft_add_eq_or_of_lt hb]
theorem xP (a b c d:Nat) (ha:a<256) (hb:b<256) (hc:c<256) (hd:d<256):(((a * 2 ^ 24) ||| (b * 2 ^ 16)) ||| (c * 2 ^ 8)) ||| d=a * 16777216 + b * 65536 + c * 256 + d:=by
 rw[pT a (b * 2 ^ 16) 24 (by omega)]
 rw[show a * 2 ^ 24 + b * 2 ^ 16=(a * 256 + b) * 2 ^ 16 by omega,pT _ (c * 2 ^ 8) 16 (by omega)]
 rw[show (a * 256 + b) * 2 ^ 16 + c * 2 ^ 8=(a * 65536 + b * 256 + c) * 2 ^ 8 by omega,pT _ d 8 (by omega)]
theorem mB (x c:Nat) (hx:x<16777216) (hc:c<256):yJ x c=((x * 256 + c:Nat):Int):=by
 rw[yJ,show (x:Int) * 256 % 4294967296=((x * 2 ^ 8:Nat):Int) by omega,u32_or_nat _ _ (by omega) (by omega),pT x c 8 (by omega)]
theorem zx (B:Nat->Int) (t:Nat) (hB:∀j,0<=B j/\B j<=255):
  bits .or .u32 (bits .or .u32 (bits .or .u32 (B (4 * t) * 16777216 % 4294967296) (B (4 * t + 1) * 65536 % 4294967296)) (B (4 * t + 2) * 256 % 4294967296)) (B (4 * t + 3))=jV B t 4:=by
 obtain⟨a,ea,ha⟩:∃n:Nat,B (4 * t)=n/\n<256:=⟨(B (4 * t)).toNat,by have:=hB (4 * t);omega,by have:=hB (4 * t);omega⟩
 obtain⟨b,eb,hb⟩:∃n:Nat,B (4 * t + 1)=n/\n<256:=⟨(B (4 * t + 1)).toNat,by have:=hB (4 * t + 1);omega,by have:=hB (4 * t + 1);omega⟩
 obtain⟨c,ec,hc⟩:∃n:Nat,B (4 * t + 2)=n/\n<256:=⟨(B (4 * t + 2)).toNat,by have:=hB (4 * t + 2);omega,by have:=hB (4 * t + 2);omega⟩
 obtain⟨d,ed,hd⟩:∃n:Nat,B (4 * t + 3)=n/\n<256:=⟨(B (4 * t + 3)).toNat,by have:=hB (4 * t + 3);omega,by have:=hB (4 * t + 3);omega⟩
 have e1:jV B t 4=((a * 16777216 + b * 65536 + c * 256 + d:Nat):Int):=by
  show yJ (yJ (yJ (yJ 0 (B (4 * t + 0))) (B (4 * t + 1))) (B (4 * t + 2))) (B (4 * t + 3))=_
  rw[Nat.add_zero,ea,eb,ec,ed,show (0:Int)=((0:Nat):Int) from rfl,mB 0 a (by omega) ha,mB _ b (by omega) hb,mB _ c (by omega) hc,mB _ d (by omega) hd]
  omega
 rw[e1,ea,eb,ec,ed,show (a:Int) * 16777216 % 4294967296=((a * 2 ^ 24:Nat):Int) by omega,show (b:Int) * 65536 % 4294967296=((b * 2 ^ 16:Nat):Int) by omega,show (c:Int) * 256 % 4294967296=((c * 2 ^ 8:Nat):Int) by omega]
 have l1:a * 2 ^ 24<4294967296:=by
  exact Nat.lt_of_lt_of_le (Nat.mul_lt_mul_of_pos_right ha (by decide)) (by decide)
 have l2:b * 2 ^ 16<4294967296:=by
  exact Nat.lt_of_lt_of_le (Nat.mul_lt_mul_of_pos_right hb (by decide)) (by decide)
 have l3:c * 2 ^ 8<4294967296:=by
  exact Nat.lt_of_lt_of_le (Nat.mul_lt_mul_of_pos_right hc (by decide)) (by decide)
 rw[u32_or_nat _ _ l1 l2,u32_or_nat _ _ (tZ _ _ l1 l2) l3,u32_or_nat _ _ (tZ _ _ (tZ _ _ l1 l2) l3) (by omega),xP a b c d ha hb hc hd]
theorem Br (x:Int) (w:World):Calls prog 129 #[.int .u32 x,.int .u64 2] w fun e w'=>e=.returned (.int .u32 (cL 2 x))/\w'=w:=by
 rw[cL,cP]
 go_enter func129,ntmps129
 go_wp2
 go_ret
 exact⟨rfl,rfl⟩
theorem Bt (x:Int) (w:World):Calls prog 129 #[.int .u32 x,.int .u64 6] w fun e w'=>e=.returned (.int .u32 (cL 6 x))/\w'=w:=by
 rw[cL,cP]
 go_enter func129,ntmps129
 go_wp2
 go_ret
 exact⟨rfl,rfl⟩
theorem Bu (x:Int) (w:World):Calls prog 129 #[.int .u32 x,.int .u64 7] w fun e w'=>e=.returned (.int .u32 (cL 7 x))/\w'=w:=by
 rw[cL,cP]
 go_enter func129,ntmps129
 go_wp2
 go_ret
 exact⟨rfl,rfl⟩
theorem A5 (x:Int) (w:World):Calls prog 129 #[.int .u32 x,.int .u64 11] w fun e w'=>e=.returned (.int .u32 (cL 11 x))/\w'=w:=by
 rw[cL,cP]
 go_enter func129,ntmps129
 go_wp2
 go_ret
 exact⟨rfl,rfl⟩
theorem A6 (x:Int) (w:World):Calls prog 129 #[.int .u32 x,.int .u64 13] w fun e w'=>e=.returned (.int .u32 (cL 13 x))/\w'=w:=by
 rw[cL,cP]
 go_enter func129,ntmps129
 go_wp2
 go_ret
 exact⟨rfl,rfl⟩
theorem A7 (x:Int) (w:World):Calls prog 129 #[.int .u32 x,.int .u64 17] w fun e w'=>e=.returned (.int .u32 (cL 17 x))/\w'=w:=by
 rw[cL,cP]
 go_enter func129,ntmps129
 go_wp2
 go_ret
 exact⟨rfl,rfl⟩
theorem A8 (x:Int) (w:World):Calls prog 129 #[.int .u32 x,.int .u64 18] w fun e w'=>e=.returned (.int .u32 (cL 18 x))/\w'=w:=by
 rw[cL,cP]
 go_enter func129,ntmps129
 go_wp2
 go_ret
 exact⟨rfl,rfl⟩
theorem Ba (x:Int) (w:World):Calls prog 129 #[.int .u32 x,.int .u64 19] w fun e w'=>e=.returned (.int .u32 (cL 19 x))/\w'=w:=by
 rw[cL,cP]
 go_enter func129,ntmps129
 go_wp2
 go_ret
 exact⟨rfl,rfl⟩
theorem Bb (x:Int) (w:World):Calls prog 129 #[.int .u32 x,.int .u64 22] w fun e w'=>e=.returned (.int .u32 (cL 22 x))/\w'=w:=by
 rw[cL,cP]
 go_enter func129,ntmps129
 go_wp2
 go_ret
 exact⟨rfl,rfl⟩
theorem Bc (x:Int) (w:World):Calls prog 129 #[.int .u32 x,.int .u64 25] w fun e w'=>e=.returned (.int .u32 (cL 25 x))/\w'=w:=by
 rw[cL,cP]
 go_enter func129,ntmps129
 go_wp2
 go_ret
 exact⟨rfl,rfl⟩
