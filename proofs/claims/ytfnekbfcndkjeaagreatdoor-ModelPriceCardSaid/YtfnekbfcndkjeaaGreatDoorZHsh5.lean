/- The document's sum: the roots of the first primes, walked; what they are. -/
import Derived.Test.YtfnekbfcndkjeaaGreatDoorZHsh1
import Derived.Test.YtfnekbfcndkjeaaGreatDoorZRfM1
import Derived.Shelf.Bits.Mul64
set_option maxHeartbeats 2000000
set_option maxRecDepth 100000
set_option linter.all false
namespace Go.Proofs.YtfnekbfcndkjeaaGreatDoor
open Go.Proofs.Tryz Go.RowKit
def oY (n k:Nat):Bool:=a9 (fun j=>decide (¬ n % (j + 2)=0)) k
def kh (n:Nat):Bool:=oY n (n - 2)
theorem qz5 (n:Nat) (h2:2<=n) (hn:n<=1000000) (w:World):Calls prog 131 #[.int .u64 n] w fun e w'=>e=.returned (.bool (kh n))/\w'=w:=by
 obtain⟨R,hR⟩:∃R,R=kh n:=⟨_,rfl⟩
 have HR:=ac hR
 rw[<-hR]
 clear hR
 go_enter func131,ntmps131
 go_wp2_with fail
 go_loopg [3] n (fun gk v3 wr=>∃k:Nat,k + 2<=n/\v3=.int .u64 ((k + 2:Nat):Int)/\n - k<=gk/\aa (oY n k=true)/\wr=w)
 case atStart=>exact⟨0,by omega,rfl,by omega,rfl,rfl⟩
 case round=>
  obtain⟨k,hk,rfl,hgk,HA,hwr⟩:=hrel
  rw[hwr]
  clear hwr
  obtain⟨d,hd⟩:∃d,d=k + 2:=⟨_,rfl⟩
  rw[<-hd] at hk ⊢
  have hd2:2<=d:=by omega
  have HD:=ac hd
  have HG:aa (n - (k + 1)<gk):=by rw[aa];omega
  clear hd hgk
  have hd0:¬(d:Int)=0:=by omega
  by_cases hlt:d<n
  ·have hki:(d:Int)<n:=by omega
   obtain⟨q,hq⟩:∃q,q=n % d:=⟨_,rfl⟩
   have hm:(n:Int).tmod (d:Int)=(q:Int):=by rw[hq];rfl
   by_cases h0:q=0
   ·have HF:aa (R=false):=by
     rw[aa,HR.out,kh,oY]
     have hd':=HD.out
     refine ee _ k (n - 2) (by omega) ?_
     rw[<-hd',<-hq,h0]
     rfl
    have e0:((q:Int)==0)=true:=by simpa using h0
    clear hq h0 hlt hk
    go_wp2_with fail
    go_ret
    exact⟨by rw[HF.out];rfl,rfl⟩
   ·have HA2:aa (oY n (k + 1)=true):=by
     have hd':=HD.out
     have ha:=HA.out
     rw[oY] at ha
     rw[aa,oY,a9,ha,<-hd',<-hq,decide_eq_true h0]
     rfl
    have e0:((q:Int)==0)=false:=by simpa using h0
    have hw:IntKind.u64.wrap ((d:Int) + 1)=((k + 1 + 2:Nat):Int):=by rw[IntKind.wrap_u64];have:=HD.out;omega
    have HK:aa (k + 1 + 2<=n):=by have:=HD.out;rw[aa];omega
    clear hq h0 hlt hk
    go_wp2_with fail
    go_roundg (n - (k + 1))
    case measure=>exact HG.out
    case rel=>exact⟨k + 1,HK.out,rfl,by omega,HA2.out,rfl⟩
  ·have hki:¬(d:Int)<n:=by omega
   have hn1:(1:Int)<n:=by omega
   have HF:aa (R=true):=by
    rw[aa,HR.out,kh,show n - 2=k by have:=HD.out;omega]
    exact HA.out
   clear hlt hk
   go_wp2_with fail
   go_ret
   exact⟨by rw[HF.out];rfl,rfl⟩
open Go.Proofs in
theorem t5 (x y:Nat) (hx:x<18446744073709551616) (hy:y<18446744073709551616) (w:World):
  Calls prog 134 #[.int .u64 x,.int .u64 y] w fun e w'=>e=.returned (.tuple #[.int .u64 ((x * y / 18446744073709551616:Nat):Int),.int .u64 ((x * y % 18446744073709551616:Nat):Int)])/\w'=w:=by
 obtain⟨bd,bt,bw,hhi⟩:=Lib.mul64_hi x y hx hy
 have ba:=Lib.half_mul_le (a:=x / 4294967296) (b:=y / 4294967296) (by omega) (by omega)
 have bb:=Lib.half_mul_le (a:=x / 4294967296) (b:=y % 4294967296) (by omega) (by omega)
 have bc:=Lib.half_mul_le (a:=x % 4294967296) (b:=y / 4294967296) (by omega) (by omega)
 have ba':x / 4294967296 * (y / 4294967296)<18446744073709551616:=by omega
 have bb':x / 4294967296 * (y % 4294967296)<18446744073709551616:=by omega
 have bc':x % 4294967296 * (y / 4294967296)<18446744073709551616:=by omega
 have bh1:x / 4294967296 * (y / 4294967296) + (x / 4294967296 * (y % 4294967296) + x % 4294967296 * (y % 4294967296) / 4294967296) / 4294967296<18446744073709551616:=by omega
 have bh:x / 4294967296 * (y / 4294967296) + (x / 4294967296 * (y % 4294967296) + x % 4294967296 * (y % 4294967296) / 4294967296) / 4294967296 + ((x / 4294967296 * (y % 4294967296) + x % 4294967296 * (y % 4294967296) / 4294967296) % 4294967296 + x % 4294967296 * (y / 4294967296)) / 4294967296<18446744073709551616:=by omega
 go_enter func134,ntmps134
 go_wp2
 simp only[Mul64.maskN x hx,Mul64.maskN y hy,Mul64.divN,Mul64.mulN,Mul64.addN,Mul64.wrapN _ bd,Mul64.wrapN _ bb',Mul64.wrapN _ bt,Mul64.maskN _ bt,Mul64.wrapN _ bc',Mul64.wrapN _ bw,Mul64.wrapN _ ba',Mul64.wrapN _ bh1,Mul64.wrapN _ bh,Mul64.wrapM (x * y)]
 rw[hhi]
 go_ret2
 exact⟨rfl,rfl⟩
def ki (n p:Nat) (cube:Bool):Bool:=
 if cube then decide ((n * n / 18446744073709551616 * n + n * n % 18446744073709551616 * n / 18446744073709551616) % 18446744073709551616<p * 4294967296) ||(decide ((n * n / 18446744073709551616 * n + n * n % 18446744073709551616 * n / 18446744073709551616) % 18446744073709551616=p * 4294967296) &&decide (n * n % 18446744073709551616 * n % 18446744073709551616=0))
 else decide (n * n / 18446744073709551616<p) ||(decide (n * n / 18446744073709551616=p) &&decide (n * n % 18446744073709551616=0))
theorem qz9 (n p:Nat) (hn:n<18446744073709551616) (hp:p<=1000000) (cube:Bool) (w:World):Calls prog 132 #[.int .u64 n,.int .u64 p,.bool cube] w fun e w'=>e=.returned (.bool (ki n p cube))/\w'=w:=by
 obtain⟨R,hR⟩:∃R,R=ki n p cube:=⟨_,rfl⟩
 have HR:=ac hR
 rw[<-hR]
 obtain⟨H,hH⟩:∃H,H=n * n / 18446744073709551616:=⟨_,rfl⟩
 obtain⟨L,hL⟩:∃L,L=n * n % 18446744073709551616:=⟨_,rfl⟩
 have hLl:L<18446744073709551616:=by rw[hL];exact Nat.mod_lt _ (by decide)
 have HH:=ac hH
 have HL:=ac hL
 have HLL:=ac hLl
 have HNN:=ac hn
 clear hR hn
 go_enter func132,ntmps132
 go_wp2_with fail
 refine (t5 n n HNN.out HNN.out w).mono ?_
 rintro e w1 ⟨rfl,hw⟩
 rw[hw,<-hH,<-hL]
 clear hw w1 hH hL hLl
 cases cube with
 | false=>
  have HB:aa (R=(decide (H<p) ||(decide (H=p) &&decide (L=0)))):=by rw[aa,HR.out,ki,<-HH.out,<-HL.out];rfl
  by_cases h1:H<p
  ·have HF:aa (R=true):=by rw[aa,HB.out,decide_eq_true h1];rfl
   have e1:decide ((H:Int)<p)=true:=decide_eq_true (by omega)
   have e1':decide (H<p)=true:=decide_eq_true h1
   go_wp2_with fail
   go_ret
   exact⟨by rw[HF.out];rfl,rfl⟩
  ·have e1:decide ((H:Int)<p)=false:=decide_eq_false (by omega)
   have e1':decide (H<p)=false:=decide_eq_false h1
   by_cases h2:H=p
   ·have HF:aa (R=decide (L=0)):=by rw[aa,HB.out,e1',decide_eq_true h2];simp
    have e2:((H:Int)==p)=true:=by rw[beq_iff_eq];omega
    by_cases h3:L=0
    ·have e3:((L:Int)==0)=true:=by simpa using h3
     have HF2:aa (R=true):=by rw[aa,HF.out,decide_eq_true h3]
     clear h1 h3 h2
     go_wp2_with fail
     go_ret
     exact⟨by first | (rw [HF2.out];rfl) | (rw [HF2.out,<-e3];rfl),rfl⟩
    ·have e3:((L:Int)==0)=false:=by simpa using h3
     have HF2:aa (R=false):=by rw[aa,HF.out,decide_eq_false h3]
     clear h1 h3 h2
     go_wp2_with fail
     go_ret
     exact⟨by first | (rw [HF2.out];rfl) | (rw [HF2.out,<-e3];rfl),rfl⟩
   ·have HF:aa (R=false):=by rw[aa,HB.out,e1',decide_eq_false h2];rfl
    have e2:((H:Int)==p)=false:=by rw[beq_eq_false_iff_ne];omega
    clear h1 h2
    go_wp2_with fail
    go_ret
    exact⟨by rw[HF.out];rfl,rfl⟩
 | true=>
  go_wp2_with fail
  refine (t5 L n HLL.out HNN.out w).mono ?_
  rintro e w1 ⟨rfl,hw⟩
  rw[hw]
  clear hw w1
  obtain⟨M,hM⟩:∃M,M=L * n / 18446744073709551616:=⟨_,rfl⟩
  obtain⟨Z,hZ⟩:∃Z,Z=L * n % 18446744073709551616:=⟨_,rfl⟩
  rw[<-hM,<-hZ]
  obtain⟨T,hT⟩:∃T,T=(H * n + M) % 18446744073709551616:=⟨_,rfl⟩
  obtain⟨Q,hQ⟩:∃Q,Q=p * 4294967296:=⟨_,rfl⟩
  have HB:aa (R=(decide (T<Q) ||(decide (T=Q) &&decide (Z=0)))):=by rw[aa,HR.out,ki,<-HH.out,<-HL.out,<-hM,<-hZ,<-hT,<-hQ];rfl
  obtain⟨A,hA⟩:∃A,A=H * n % 18446744073709551616:=⟨_,rfl⟩
  have hw1:IntKind.u64.wrap ((H:Int) * n)=(A:Int):=by rw[IntKind.wrap_u64,hA,Int.natCast_emod,Int.natCast_mul];rfl
  have hw2:IntKind.u64.wrap ((A:Int) + M)=(T:Int):=by rw[IntKind.wrap_u64,hT,hA];omega
  have hw2':((A:Int) + M) % 18446744073709551616=(T:Int):=by rw[<-hw2,IntKind.wrap_u64]
  have hw3:IntKind.u64.wrap ((p:Int) * 4294967296)=(Q:Int):=by rw[IntKind.wrap_u64,hQ];omega
  have hw3':(p:Int) * 4294967296 % 18446744073709551616=(Q:Int):=by rw[hQ];omega
  clear hM hZ hT hQ hA
  by_cases h1:T<Q
  ·have HF:aa (R=true):=by rw[aa,HB.out,decide_eq_true h1];rfl
   have e1:decide ((T:Int)<Q)=true:=decide_eq_true (by omega)
   have e1':decide (T<Q)=true:=decide_eq_true h1
   go_wp2_with fail
   go_ret
   exact⟨by rw[HF.out];rfl,rfl⟩
  ·have e1:decide ((T:Int)<Q)=false:=decide_eq_false (by omega)
   have e1':decide (T<Q)=false:=decide_eq_false h1
   by_cases h2:T=Q
   ·have HF:aa (R=decide (Z=0)):=by rw[aa,HB.out,e1',decide_eq_true h2];simp
    have e2:((T:Int)==Q)=true:=by rw[beq_iff_eq];omega
    by_cases h3:Z=0
    ·have e3:((Z:Int)==0)=true:=by simpa using h3
     have HF2:aa (R=true):=by rw[aa,HF.out,decide_eq_true h3]
     clear h1 h3 h2
     go_wp2_with fail
     go_ret
     exact⟨by first | (rw [HF2.out];rfl) | (rw [HF2.out,<-e3];rfl),rfl⟩
    ·have e3:((Z:Int)==0)=false:=by simpa using h3
     have HF2:aa (R=false):=by rw[aa,HF.out,decide_eq_false h3]
     clear h1 h3 h2
     go_wp2_with fail
     go_ret
     exact⟨by first | (rw [HF2.out];rfl) | (rw [HF2.out,<-e3];rfl),rfl⟩
   ·have HF:aa (R=false):=by rw[aa,HB.out,e1',decide_eq_false h2];rfl
    have e2:((T:Int)==Q)=false:=by rw[beq_eq_false_iff_ne];omega
    clear h1 h2
    go_wp2_with fail
    go_ret
    exact⟨by rw[HF.out];rfl,rfl⟩
def oZ (p:Nat) (cube:Bool):Nat->Nat->Nat
 | 0,n=>n
 | k + 1,n=>oZ p cube k (if ki (n ||| 2 ^ k) p cube then n ||| 2 ^ k else n)
def eE (p:Nat) (cube:Bool):Nat:=oZ p cube 36 0 % 4294967296
theorem zy (n k:Nat) (hn:n<68719476736) (hk:k<36):bits .or .u64 (n:Int) ((2 ^ k:Nat):Int)=((n ||| 2 ^ k:Nat):Int)/\n ||| 2 ^ k<68719476736:=by
 have h2:2 ^ k<68719476736:=by
  have:=Nat.pow_lt_pow_right (show 1<2 by decide) hk
  simpa using this
 refine⟨bits_or_u64_nat n _ (by omega) (by omega),?_⟩
 exact Nat.or_lt_two_pow (n:=36) (by simpa using hn) (by simpa using h2)
theorem pU (p:Nat) (hp:p<=1000000) (cube:Bool) (w:World):Calls prog 127 #[.int .u64 p,.bool cube] w fun e w'=>e=.returned (.int .u32 (eE p cube))/\w'=w:=by
 obtain⟨R,hR⟩:∃R,R=oZ p cube 36 0:=⟨_,rfl⟩
 have HR:=ac hR.symm
 have HP:=ac hp
 rw[eE,<-hR]
 clear hR hp
 go_enter func127,ntmps127
 go_wp2_with fail
 go_loopg [5,6] 36 (fun gk v5 v6 wr=>∃(k n:Nat),k<=36/\v5=.int .u64 n/\v6=.int .i64 ((k:Int) - 1)/\k<=gk/\n<68719476736/\aa (oZ p cube k n=R)/\wr=w)
 case atStart=>exact⟨36,0,by omega,rfl,rfl,by omega,by omega,HR.out,rfl⟩
 case round=>
  clear HR
  obtain⟨k,n,hk,rfl,rfl,hgk,hn,HF,hwr⟩:=hrel
  rw[hwr]
  clear hwr
  cases k with
  | zero=>
   have HE:aa (n=R):=HF.out
   have hi:¬(0:Int)<=((0:Nat):Int) - 1:=by omega
   have hw:IntKind.u32.wrap (n:Int)=((R % 4294967296:Nat):Int):=by rw[IntKind.wrap_u32,HE.out];rfl
   clear HF hk hgk hn
   go_wp2_with fail
   go_ret
   exact⟨rfl,rfl⟩
  | succ k=>
   have hki:((k + 1:Nat):Int) - 1=k:=by omega
   rw[hki]
   clear hki
   have hi:(0:Int)<=(k:Int):=by omega
   obtain⟨m,hm⟩:∃m,m=n ||| 2 ^ k:=⟨_,rfl⟩
   obtain⟨hb0,hml⟩:=zy n k hn (by omega)
   rw[<-hm] at hb0 hml
   have h2:((2:Int) ^ k)=((2 ^ k:Nat):Int):=by rw[Int.natCast_pow];rfl
   have hwp:IntKind.u64.wrap ((2:Int) ^ k)=((2 ^ k:Nat):Int):=by
    have:=Nat.pow_lt_pow_right (show 1<2 by decide) (show k<36 by omega)
    have h3:(2:Nat) ^ k<68719476736:=by simpa using this
    rw[h2,IntKind.wrap_u64]
    generalize (2:Nat) ^ k=z at h3 ⊢
    omega
   have hb:bits .or .u64 (n:Int) (IntKind.u64.wrap ((2:Int) ^ k))=(m:Int):=by rw[hwp];exact hb0
   have HF2:aa (oZ p cube k (if ki m p cube then m else n)=R):=by rw[aa,<-HF.out,oZ,<-hm]
   have HML:=ac hml
   have HML2:aa (m<18446744073709551616):=by rw[aa];omega
   have HNL:=ac hn
   have HK:aa (k<=36/\k<gk):=⟨by omega,by omega⟩
   clear h2 hwp hb0 hm hml HF
   go_upto_region 6 with fail
   clear hb hk hgk hn
   go_wp2_with fail
   refine (qz9 m p HML2.out HP.out cube w).mono ?_
   rintro e w1 ⟨rfl,hw⟩
   rw[hw]
   clear hw w1
   obtain⟨B,hB⟩:∃B,B=ki m p cube:=⟨_,rfl⟩
   rw[<-hB] at HF2 ⊢
   clear hB
   have hs:IntKind.i64.wrap ((k:Int) - 1)=(k:Int) - 1:=IntWalk.i64_in _ (by have:=HK.out;omega)
   cases B with
   | true=>
    go_wp2_with fail
    go_roundg k
    case measure=>exact HK.out.2
    case rel=>exact⟨k,m,HK.out.1,rfl,rfl,by omega,HML.out,HF2.out,rfl⟩
   | false=>
    go_wp2_with fail
    go_roundg k
    case measure=>exact HK.out.2
    case rel=>exact⟨k,n,HK.out.1,rfl,rfl,by omega,HNL.out,HF2.out,rfl⟩
theorem Tryz.infoU64:(prog.info? 44).map (fun i=>(i.zero,i.size,i.bytes))=some (some (.int .u64 0),1,8):=by kernel_rfl
theorem Tryz.infoU32:(prog.info? 172).map (fun i=>(i.zero,i.size,i.bytes))=some (some (.int .u32 0),1,4):=by kernel_rfl
def qZ (kd:IntKind) (w:World) (v:Value) (xs:List Int):Prop:=
 ∃a cap,v=.slice a xs.length cap/\xs.length<=cap/\(0<xs.length->∃lb lo,a=some ⟨lb,lo,none⟩/\lb<w.heap.size/\∀j,j<xs.length->w.cell? ⟨lb,lo + j,none⟩=some (.int kd (xs.getD j 0)))
theorem qZ.on {kd:IntKind} {w w':World} {v:Value} {xs:List Int} (h:qZ kd w v xs) (hb:Below w.heap.size w w'):qZ kd w' v xs:=by
 obtain⟨a,cap,e,hc,h⟩:=h
 refine⟨a,cap,e,hc,fun h0=>?_⟩
 obtain⟨lb,lo,ea,hl,hj⟩:=h h0
 exact⟨lb,lo,ea,Nat.lt_of_lt_of_le hl hb.size,fun j h3=>(hb.cell (p:=⟨lb,lo + j,none⟩) hl).trans (hj j h3)⟩
theorem qZ.own {kd:IntKind} {base:Nat} {E:TypeId} {w:World} {v:Value} {n:Nat} {xs:List Int} (h:w.ownsRow base E 1 v n (xs.map (Value.int kd))) (hn:xs.length=n):qZ kd w v xs:=by
 obtain⟨a,cap,e,hc,hx⟩:=az h
 refine⟨a,cap,by rw[hn];exact e,by omega,fun h0=>?_⟩
 obtain⟨g,ea,_,hg,hj⟩:=hx (by omega)
 refine⟨g,0,ea,hg,fun j hjl=>?_⟩
 rw[Nat.zero_add]
 refine hj j _ ?_
 rw[List.getElem?_map,List.getElem?_eq_getElem hjl,List.getD_eq_getElem?_getD,List.getElem?_eq_getElem hjl]
 rfl
theorem l6 {w w2 w3:World} {o:Obj} {v:Value} {B:Nat} (hB:w.heap.size<=B) (h:Below w.heap.size w w2) (ho:∀j,v.ownBlock=some j->B<=j) (hg:(w2.alloc o).grownBy w3 v.ownBlock):Below w.heap.size w w3:=by
 have hk3:am (·<w.heap.size) w2 w3:=(ak (af _ _) _).trans (aF hg _ (fun j hj h=>by have:=ho j hj;omega))
 exact h.trans (hk3.below h.size)
def iL (many:Nat):Nat->Nat->List Nat->List Nat
 | 0,_,acc=>acc
 | f + 1,n,acc=>if acc.length<many then iL many f (n + 1) (if kh n then acc++[n] else acc) else acc
def fX (many:Nat):List Nat:=iL many 398 2 []
def fH (xs:List Nat):List Int:=List.map (fun n:Nat=>(n:Int)) xs
def jE (kd:IntKind) (E:TypeId) (xs:List Int) (w:World) (e:Ending) (w':World):Prop:=
 ∃v,e=.returned v/\w'.ownsRow w.heap.size E 1 v xs.length (xs.map (Value.int kd))/\Below w.heap.size w w'
theorem sY (many:Nat) (hm:many<=1000) (w:World):Calls prog 126 #[.int .i64 many] w (jE .u64 44 (fH (fX many)) w):=by
 obtain⟨R,hR⟩:∃R,R=fX many:=⟨_,rfl⟩
 have HR:aa (iL many 398 2 []=R):=hR.symm
 rw[<-hR]
 have HM:=ac hm
 clear hR hm
 have HOW:aa (w.ownsRow w.heap.size 44 1 (.slice none 0 0) 0 ((fH []).map (Value.int .u64))):=World.ownsRow_nil _ _ _ _
 go_enter func126,ntmps126
 go_wp2_with fail
 go_loopg [3,4] 398 (fun gk v3 v4 wr=>∃(f n:Nat) (y:Value) (xs:List Nat),y=v3/\v4=.int .u64 n/\n + f=400/\2<=n/\f<=gk/\xs.length<=n/\aa (iL many f n xs=R)/\aa (wr.ownsRow w.heap.size 44 1 y xs.length ((fH xs).map (Value.int .u64)))/\aa (Below w.heap.size w wr))
 case atStart=>exact⟨398,2,_,[],rfl,rfl,by omega,by omega,by omega,by simp,HR.out,HOW,Below.refl _ _⟩
 case round=>
  clear HR HOW
  obtain⟨f,n,y,xs,rfl,rfl,hf,hn2,hgk,hxl,HF,HO,HB⟩:=hrel
  obtain⟨m,hm⟩:∃m,m=xs.length:=⟨_,rfl⟩
  obtain⟨a,cap,hy,hcap,_⟩:=az HO.out
  rw[<-hm] at hy hxl
  have HML:=ac hm
  have HY:=ac hy
  have hend:(f=0\/¬m<many)->aa (jE .u64 44 (fH R) w (.returned y) wr):=fun h=>by
   have e:R=xs:=by
    rw[<-HF.out]
    rcases h with rfl | h
    ·rfl
    ·cases f with
     | zero=>rfl
     | succ f=>rw[iL,if_neg (show ¬xs.length<many by rw[<-hm];exact h)]
   refine⟨y,rfl,?_,HB.out⟩
   rw[e]
   have:=HO.out
   rw[show (fH xs).length=xs.length by simp[fH]]
   exact this
  have HEND:=ac hend
  clear hend hcap hm
  cases f with
  | zero=>
   have h4:¬(n:Int)<400:=by omega
   have HE:=ac (HEND.out (.inl rfl)).out
   clear hf hn2 hgk hxl hy
   go_wp2_with fail
   go_ret
   exact HE.out
  | succ f=>
   have h4:(n:Int)<400:=by omega
   by_cases hlt:m<many
   ·have hl:(m:Int)<many:=by omega
    have hg1:f + 1<=gk:=hgk
    have HN:aa (n + 1 + f=400/\2<=n + 1/\f<gk/\m + 1<=n + 1/\m<=n + 1/\n<=400):=⟨by omega,by omega,by omega,by omega,by omega,by omega⟩
    have HF2:aa (iL many f (n + 1) (if kh n then xs++[n] else xs)=R):=by
     have e:=HF.out
     rw[iL,if_pos (show xs.length<many by rw[<-HML.out];exact hlt)] at e
     exact e
    have HN2:=ac hn2
    have hm64:many<=1000:=HM.out
    rw[hy]
    clear hf hn2 hgk hxl hg1 HF HEND
    go_upto_region 5 with fail
    clear hl h4 hy
    rw[<-HY.out]
    go_wp2_with fail
    refine (qz5 n HN2.out (by have:=HN.out;omega) wr).mono ?_
    rintro e w1 ⟨rfl,hw⟩
    rw[hw]
    clear hw w1
    obtain⟨B,hB⟩:∃B,B=kh n:=⟨_,rfl⟩
    rw[<-hB] at HF2 ⊢
    clear hB
    have hwn:IntKind.u64.wrap ((n:Int) + 1)=((n + 1:Nat):Int):=by rw[IntKind.wrap_u64];have:=HN.out;omega
    cases B with
    | false=>
     go_wp2_with fail
     go_roundg f
     case measure=>exact HN.out.2.2.1
     case rel=>exact⟨f,n + 1,_,xs,rfl,rfl,HN.out.1,HN.out.2.1,by omega,by rw[<-HML.out];exact HN.out.2.2.2.2.1,HF2.out,HO,HB⟩
    | true=>
     have hOW:=HO.out
     rw[<-HML.out] at hOW
     have HOW2:=ac hOW
     have hs2:w.heap.size<=wr.heap.size:=HB.out.size
     clear hOW
     go_wp2_with (first
      | (at_builtin;refine aZ rfl _ _ 102 44 rfl (.int .u64 0) 1 8 underlying102 Tryz.infoU64 rfl (by decide) w.heap.size _ m _ rfl (World.ownsRow.alloc HOW2.out _) wr.heap.size [.int .u64 n] rfl (by simp[Value.oneCell']) rfl ?c1 ?c2 ?c3 ?c4 ?_)
      | fail)
     case c1=>intro j u hu;rw[aO];match j,hu with | 0,hu=>simpa using hu | j + 1,hu=>simp at hu
     case c2=>unfold maxLen;omega
     case c3=>omega
     case c4=>simp;omega
     intro v' w3 hown' hgrow
     have HOW3:aa (w3.ownsRow w.heap.size 44 1 v' (xs++[n]).length ((fH (xs++[n])).map (Value.int .u64))):=by
      rw[aa,List.length_append,<-HML.out,fH,List.map_append,List.map_append];exact hown'
     have HB3:aa (Below w.heap.size w w3):=l6 (Nat.le_refl _) HB.out (bM HOW2.out) hgrow
     clear hown' hgrow HOW2
     go_wp2_with fail
     go_roundg f
     case measure=>exact HN.out.2.2.1
     case rel=>exact⟨f,n + 1,_,xs++[n],rfl,rfl,HN.out.1,HN.out.2.1,by omega,by rw[List.length_append,<-HML.out];exact HN.out.2.2.2.1,HF2.out,HOW3,HB3⟩
   ·have hl:¬(m:Int)<many:=by omega
    have HE:=ac (HEND.out (.inr hlt)).out
    rw[hy] at HE ⊢
    clear hf hn2 hgk hxl
    go_wp2_with fail
    go_ret
    exact HE.out
theorem ve (xs:List Nat) (i:Nat):(fH xs).getD i 0=((xs.getD i 0:Nat):Int):=by
 rw[List.getD_eq_getElem?_getD,List.getD_eq_getElem?_getD,fH,List.getElem?_map]
 cases xs[i]? <;> rfl
theorem eF (xs:List Nat):(fH xs).length=xs.length:=by simp[fH]
theorem vf (xs:List Nat) (x:Nat):fH (xs++[x])=fH xs++[(x:Int)]:=by simp[fH]
def jw (many:Nat) (cube:Bool):List Nat:=(fX many).map fun p=>eE p cube
theorem jR (many:Nat) (hm:many<=1000) (cube:Bool) (hb:∀p∈fX many,p<=1000000) (hl:(fX many).length<=1000) (w:World):
  Calls prog 112 #[.int .i64 many,.bool cube] w (jE .u32 172 (fH (jw many cube)) w):=by
 obtain⟨ps,hps⟩:∃ps,ps=fX many:=⟨_,rfl⟩
 have HPS:=ac hps
 rw[jw,<-hps]
 rw[<-hps] at hb hl
 have HM:=ac hm
 have HPB:=ac hb
 have HPL:=ac hl
 clear hps hm hb hl
 go_enter func112,ntmps112
 go_wp2_with fail
 refine (sY many HM.out w).mono ?_
 rintro e w1 ⟨l,rfl,hown,hb1⟩
 rw[<-HPS.out] at hown
 have HB1:=ac hb1
 have HL1:aa (qZ .u64 w1 l (fH ps)):=qZ.own hown (eF ps ▸ rfl)
 clear hown hb1 HPS
 obtain⟨n,hn⟩:∃n,n=ps.length:=⟨_,rfl⟩
 have hn1:n<=1000:=by rw[hn];exact HPL.out
 have HN:=ac hn
 obtain⟨al,cl,rfl,_,_⟩:=HL1.out
 have hln:(fH ps).length=n:=by rw[eF,hn]
 rw[hln] at HL1 ⊢
 clear hn hln
 have HOW:aa (w1.ownsRow w1.heap.size 172 1 (.slice none 0 0) 0 ((fH []).map (Value.int .u32))):=World.ownsRow_nil _ _ _ _
 go_wp2_with fail
 go_loopg [5,7] n (fun gk v5 v7 wr=>∃(i:Nat) (y:Value) (xs:List Nat),y=v5/\v7=.int .i64 i/\i<=n/\n - i<=gk/\aa (xs=(ps.take i).map fun p=>eE p cube)/\aa (wr.ownsRow w1.heap.size 172 1 y i ((fH xs).map (Value.int .u32)))/\aa (Below w1.heap.size w1 wr))
 case atStart=>exact⟨0,_,[],rfl,rfl,by omega,by omega,rfl,HOW,Below.refl _ _⟩
 case round=>
  clear HOW
  obtain⟨i,y,xs,rfl,rfl,hi,hgk,HX,HO,HB⟩:=hrel
  by_cases hlt:i<n
  ·have hki:(i:Int)<n:=by omega
   obtain⟨a',cap',e,_,hj0⟩:=HL1.out.on HB.out
   obtain⟨lb,lo,ea,hlb,hj⟩:=hj0 (by rw[eF,<-HN.out];omega)
   obtain⟨ea2,en2,ec2⟩:=Value.slice.inj e
   clear hj0 en2
   subst ec2
   subst ea2
   subst ea
   have d0:=hj i (by rw[eF,<-HN.out];exact hlt)
   rw[ve] at d0
   obtain⟨p,hp⟩:∃p,p=ps.getD i 0:=⟨_,rfl⟩
   rw[<-hp] at d0
   have hmem:p∈ps:=by
    have hl:i<ps.length:=by rw[<-HN.out];exact hlt
    rw[hp,List.getD_eq_getElem?_getD,List.getElem?_eq_getElem hl]
    exact List.getElem_mem _
   have HPP:aa (p<=1000000):=HPB.out p hmem
   have HX2:aa (xs++[eE p cube]=(ps.take (i + 1)).map fun p=>eE p cube):=by
    have hl:i<ps.length:=by rw[<-HN.out];exact hlt
    rw[aa,List.take_add_one,List.map_append,List.getElem?_eq_getElem hl,HX.out,hp,List.getD_eq_getElem?_getD,List.getElem?_eq_getElem hl]
    rfl
   have HM2:aa (n - (i + 1)<gk/\i + 1<=n):=⟨by omega,by omega⟩
   have hs2:w1.heap.size<=wr.heap.size:=HB.out.size
   clear hj hp hmem e hgk hi
   go_wp2_with fail
   refine (pU p HPP.out cube wr).mono ?_
   rintro e w2 ⟨rfl,hw⟩
   rw[hw]
   clear hw w2 d0
   obtain⟨q,hq⟩:∃q,q=eE p cube:=⟨_,rfl⟩
   rw[<-hq] at HX2 ⊢
   clear hq
   go_wp2_with (first
    | (at_builtin;refine aZ rfl _ _ 174 172 rfl (.int .u32 0) 1 4 underlying174 Tryz.infoU32 rfl (by decide) w1.heap.size _ i _ rfl (World.ownsRow.alloc HO.out _) wr.heap.size [.int .u32 q] rfl (by simp[Value.oneCell']) rfl ?c1 ?c2 ?c3 ?c4 ?_)
    | fail)
   case c1=>intro j u hu;rw[aO];match j,hu with | 0,hu=>simpa using hu | j + 1,hu=>simp at hu
   case c2=>unfold maxLen;omega
   case c3=>omega
   case c4=>simp;omega
   intro v' w3 hown' hgrow
   have HOW3:aa (w3.ownsRow w1.heap.size 172 1 v' (i + 1) ((fH (xs++[q])).map (Value.int .u32))):=by
    rw[aa,vf,List.map_append];exact hown'
   have HB3:aa (Below w1.heap.size w1 w3):=l6 (Nat.le_refl _) HB.out (bM HO.out) hgrow
   clear hown' hgrow
   go_wp2_with fail
   go_roundg (n - (i + 1))
   case measure=>exact HM2.out.1
   case rel=>exact⟨i + 1,_,xs++[q],rfl,by go_num,HM2.out.2,by omega,HX2.out,HOW3,HB3⟩
  ·have hki:¬(i:Int)<n:=by omega
   have HE:aa (jE .u32 172 (fH (ps.map fun p=>eE p cube)) w (.returned y) wr):=by
    have hin:i=ps.length:=by rw[<-HN.out];omega
    have hx:=HX.out
    rw[hin,List.take_length] at hx
    refine⟨y,rfl,?_,aD HB1.out HB.out⟩
    rw[<-hx,eF,hx,List.length_map,<-hin,<-hx]
    exact bY HO.out HB1.out.size
   clear hlt hgk hi
   go_wp2_with fail
   go_ret
   exact HE.out
theorem t6:fX 8=[2,3,5,7,11,13,17,19]:=by decide +kernel
theorem nJ:(∀ p∈fX 64,p<=1000000)/\(fX 64).length=64:=by decide +kernel
theorem xQ:jw 8 false=[1779033703,3144134277,1013904242,2773480762,1359893119,2600822924,528734635,1541459225]:=by decide +kernel
