/- Plain facts: the blocks of the stable sort, merged two by two. -/
import Derived.Sort.Lot0
set_option linter.all false
namespace Go.Proofs.YtfnekbfcndkjeaaGreatDoor.Srt
open Go.Sort
variable {α : Type} [Inhabited α]
def Srt (T:α->α->Prop) (d:Array α) (a b:Nat):Prop:=∀p q,a<=p->p<q->q<b->T d[p]! d[q]!
def ei (d d':Array α) (a b i:Nat):Prop:=
 d'.size=d.size/\∀p,d'[p]! =if a<=p/\p<a + i then d[p - a + b]! else if b<=p/\p<b + i then d[p - b + a]! else d[p]!
def gJ (d d':Array α) (a m b:Nat):Prop:=
 d'.size=d.size/\∀p,d'[p]! =if a<=p/\p<a + (b - m) then d[p - a + m]! else if a + (b - m)<=p/\p<b then d[p - (b - m)]! else d[p]!
structure ct (T:α->α->Prop) (d d':Array α) (a b:Nat):Prop where
 size:d'.size=d.size
 out:∀p,p<a\/b<=p->d'[p]! =d[p]!
 src:∀p,a<=p->p<b->∃q,a<=q/\q<b/\d'[p]! =d[q]!
 srt:Srt T d' a b
theorem pK (d:Array α) (i j p:Nat) (hi:i<d.size) (hj:j<d.size):(swp d i j)[p]! =if p=i then d[j]! else if p=j then d[i]! else d[p]! :=by
 by_cases h1:p=i
 ·subst h1
  rw[if_pos rfl]
  by_cases h2:p=j
  ·subst h2;exact swp_right d p p hj
  ·exact swp_left d p j hi h2
 ·rw[if_neg h1]
  by_cases h2:p=j
  ·subst h2;rw[if_pos rfl];exact swp_right d i p hj
  ·rw[if_neg h2];exact swp_other d i j p h1 h2
theorem ir (d:Array α) {p q:Nat} (h:p=q):d[p]! =d[q]! :=by rw[h]
theorem ei.start (d:Array α) (a b:Nat):ei d d a b 0:=by
 refine⟨rfl,fun p=>?_⟩
 rw[if_neg (by omega),if_neg (by omega)]
theorem ei.step {d dk:Array α} {a b i:Nat} (h:ei d dk a b i) (hab:a + i<b) (hb:b + i<d.size):ei d (swp dk (a + i) (b + i)) a b (i + 1):=by
 obtain⟨hs,h⟩:=h
 refine⟨by rw[size_swp,hs],fun p=>?_⟩
 rw[pK _ _ _ _ (by omega) (by omega)]
 simp only[h]
 repeat' split
 all_goals first | rfl | (exfalso;omega) | exact ir d (by omega)
theorem gJ.self_left (d:Array α) (a m:Nat):gJ d d a m m:=by
 refine⟨rfl,fun p=>?_⟩
 rw[if_neg (by omega)]
 by_cases h:a + (m - m)<=p/\p<m
 ·rw[if_pos h];exact ir d (by omega)
 ·rw[if_neg h]
theorem gJ.self_right (d:Array α) (m b:Nat):gJ d d m m b:=by
 refine⟨rfl,fun p=>?_⟩
 by_cases h:m<=p/\p<m + (b - m)
 ·rw[if_pos h];exact ir d (by omega)
 ·rw[if_neg h,if_neg (by omega)]
theorem gJ.left {d dk d2:Array α} {m i j:Nat} (h:ei d dk (m - i) m j) (hij:j<i) (him:i<=m) (h2:gJ dk d2 (m - (i - j)) m (m + j)):gJ d d2 (m - i) m (m + j):=by
 obtain⟨s1,h1⟩:=h
 obtain⟨s2,h2⟩:=h2
 refine⟨by rw[s2,s1],fun p=>?_⟩
 rw[h2]
 simp only[h1]
 repeat' split
 all_goals first | rfl | (exfalso;omega) | exact ir d (by omega)
theorem gJ.right {d dk d2:Array α} {m i j:Nat} (h:ei d dk (m - i) (m + j - i) i) (hij:i<j) (him:i<=m) (h2:gJ dk d2 (m - i) m (m + (j - i))):gJ d d2 (m - i) m (m + j):=by
 obtain⟨s1,h1⟩:=h
 obtain⟨s2,h2⟩:=h2
 refine⟨by rw[s2,s1],fun p=>?_⟩
 rw[h2]
 simp only[h1]
 repeat' split
 all_goals first | rfl | (exfalso;omega) | exact ir d (by omega)
theorem gJ.both {d dk:Array α} {m i:Nat} (h:ei d dk (m - i) m i) (him:i<=m):gJ d dk (m - i) m (m + i):=by
 obtain⟨s1,h1⟩:=h
 refine⟨s1,fun p=>?_⟩
 simp only[h1]
 repeat' split
 all_goals first | rfl | (exfalso;omega) | exact ir d (by omega)
theorem gJ.up {d dk:Array α} {a k:Nat} (h:gJ d dk a (a + 1) (k + 1)) (hk:a<=k) (hs:k + 1<d.size):gJ d (swp dk k (k + 1)) a (a + 1) (k + 1 + 1):=by
 obtain⟨s1,h1⟩:=h
 refine⟨by rw[size_swp,s1],fun p=>?_⟩
 rw[pK _ _ _ _ (by omega) (by omega)]
 simp only[h1]
 repeat' split
 all_goals first | rfl | (exfalso;omega) | exact ir d (by omega)
theorem gJ.down {d dk:Array α} {k m:Nat} (h:gJ d dk (k + 1) m (m + 1)) (hk:k + 1<=m) (hs:m<d.size):gJ d (swp dk (k + 1) k) k m (m + 1):=by
 obtain⟨s1,h1⟩:=h
 refine⟨by rw[size_swp,s1],fun p=>?_⟩
 rw[pK _ _ _ _ (by omega) (by omega)]
 simp only[h1]
 repeat' split
 all_goals first | rfl | (exfalso;omega) | exact ir d (by omega)
theorem gJ.lo {d d':Array α} {a m b:Nat} (h:gJ d d' a m b) {p:Nat} (h1:a<=p) (h2:p<a + (b - m)):d'[p]! =d[p - a + m]! :=by rw[h.2,if_pos ⟨h1,h2⟩]
theorem gJ.hi {d d':Array α} {a m b:Nat} (h:gJ d d' a m b) {p:Nat} (h1:a + (b - m)<=p) (h2:p<b):d'[p]! =d[p - (b - m)]! :=by rw[h.2,if_neg (by omega),if_pos ⟨h1,h2⟩]
theorem gJ.out {d d':Array α} {a m b:Nat} (h:gJ d d' a m b) (ham:a<=m) (hmb:m<=b) {p:Nat} (h1:p<a\/b<=p):d'[p]! =d[p]! :=by rw[h.2,if_neg (by omega),if_neg (by omega)]
structure Bq (T:α->α->Prop) (ix:α->Nat):Prop where
 trans:∀x y z,T x y->T y z->T x z
 tot:∀x y,ix x<ix y->T x y\/T y x
theorem ct.refl {T:α->α->Prop} {d:Array α} {a b:Nat} (h:Srt T d a b):ct T d d a b:=⟨rfl,fun _ _=>rfl,fun p h1 h2=>⟨p,h1,h2,rfl⟩,h⟩
theorem ct.insert {T:α->α->Prop} (hT:∀x y z,T x y->T y z->T x z) {d dk dj:Array α} {a i j:Nat} (h:ct T d dk a i) (hr:gJ dk dj j i (i + 1)) (haj:a<=j) (hji:j<=i)
  (hup:∀p,j<=p->p<i->T dk[i]! dk[p]!) (hlo:a<j->T dk[j - 1]! dk[i]!):ct T d dj a (i + 1):=by
 have ho:∀p,p<j\/i + 1<=p->dj[p]! =dk[p]! :=fun p hp=>hr.out hji (by omega) hp
 have hj:dj[j]! =dk[i]! :=by rw[hr.lo (Nat.le_refl _) (by omega)];exact ir dk (by omega)
 have hh:∀p,j<p->p<=i->dj[p]! =dk[p - 1]! :=fun p h1 h2=>by rw[hr.hi (by omega) (by omega)];exact ir dk (by omega)
 refine⟨by rw[hr.1,h.size],fun p hp=>?_,fun p h1 h2=>?_,fun p q h1 h2 h3=>?_⟩
 ·rw[ho p (by omega),h.out p (by omega)]
 ·by_cases c1:p<j
  ·rw[ho p (Or.inl c1)]
   obtain⟨q,q1,q2,q3⟩:=h.src p h1 (by omega)
   exact⟨q,q1,by omega,q3⟩
  ·by_cases c2:p=j
   ·subst c2;rw[hj];exact⟨i,by omega,by omega,h.out i (by omega)⟩
   ·rw[hh p (by omega) (by omega)]
    obtain⟨q,q1,q2,q3⟩:=h.src (p - 1) (by omega) (by omega)
    exact⟨q,q1,by omega,q3⟩
 ·have low:∀p,a<=p->p<j->T dk[p]! dk[i]! :=fun p g1 g2=>by
   by_cases c:p=j - 1
   ·subst c;exact hlo (by omega)
   ·exact hT _ _ _ (h.srt p (j - 1) g1 (by omega) (by omega)) (hlo (by omega))
  by_cases c1:p<j
  ·rw[ho p (Or.inl c1)]
   by_cases c2:q<j
   ·rw[ho q (Or.inl c2)];exact h.srt p q h1 h2 (by omega)
   ·by_cases c3:q=j
    ·subst c3;rw[hj];exact low p h1 c1
    ·rw[hh q (by omega) (by omega)]
     exact h.srt p (q - 1) h1 (by omega) (by omega)
  ·by_cases c3:p=j
   ·subst c3;rw[hj,hh q (by omega) (by omega)];exact hup (q - 1) (by omega) (by omega)
   ·rw[hh p (by omega) (by omega),hh q (by omega) (by omega)]
    exact h.srt (p - 1) (q - 1) (by omega) (by omega) (by omega)
structure dZ (T:α->α->Prop) (ix:α->Nat) (d:Array α) (a m b:Nat):Prop where
 s1:Srt T d a m
 s2:Srt T d m b
 cross:∀p q,a<=p->p<m->m<=q->q<b->ix d[p]!<ix d[q]!
theorem sA {T:α->α->Prop} {ix:α->Nat} {d d':Array α} {a b i:Nat} (hT:∀x y z,T x y->T y z->T x z) (H:dZ T ix d a (a + 1) b) (hi:a + 1<=i) (hib:i<=b) (hr:gJ d d' a (a + 1) i)
  (hlo:∀k,a + 1<=k->k<i->T d[k]! d[a]!) (hup:∀k,i<=k->k<b->T d[a]! d[k]!):ct T d d' a b:=by
 have ho:∀p,p<a\/i<=p->d'[p]! =d[p]! :=fun p hp=>hr.out (by omega) (by omega) hp
 have hl:∀p,a<=p->p + 1<i->d'[p]! =d[p + 1]! :=fun p h1 h2=>by rw[hr.lo h1 (by omega)];exact ir d (by omega)
 have hm:d'[i - 1]! =d[a]! :=by rw[hr.hi (by omega) (by omega)];exact ir d (by omega)
 refine⟨hr.1,fun p hp=>ho p (by omega),fun p h1 h2=>?_,fun p q h1 h2 h3=>?_⟩
 ·by_cases c1:p + 1<i
  ·exact⟨p + 1,by omega,by omega,hl p h1 c1⟩
  ·by_cases c2:p=i - 1
   ·subst c2;exact⟨a,by omega,by omega,hm⟩
   ·exact⟨p,h1,h2,ho p (by omega)⟩
 ·by_cases c1:p + 1<i
  ·rw[hl p h1 c1]
   by_cases c2:q + 1<i
   ·rw[hl q (by omega) c2];exact H.s2 _ _ (by omega) (by omega) (by omega)
   ·by_cases c3:q=i - 1
    ·subst c3;rw[hm];exact hlo _ (by omega) (by omega)
    ·rw[ho q (by omega)];exact hT _ _ _ (hlo (p + 1) (by omega) (by omega)) (hup q (by omega) h3)
  ·by_cases c2:p=i - 1
   ·subst c2;rw[hm,ho q (by omega)];exact hup q (by omega) h3
   ·rw[ho p (by omega),ho q (by omega)];exact H.s2 _ _ (by omega) h2 h3
theorem qE {T:α->α->Prop} {ix:α->Nat} {d d':Array α} {a m i:Nat} (hT:∀x y z,T x y->T y z->T x z) (H:dZ T ix d a m (m + 1)) (hi:a<=i) (him:i<=m) (hr:gJ d d' i m (m + 1))
  (hlo:∀k,a<=k->k<i->T d[k]! d[m]!) (hup:∀k,i<=k->k<m->T d[m]! d[k]!):ct T d d' a (m + 1):=
 ct.insert hT (ct.refl H.s1) hr hi him hup (fun h=>hlo _ (by omega) (by omega))
structure np (T:α->α->Prop) (ix:α->Nat) (d:Array α) (a start mid e b:Nat):Prop where
 lo:dZ T ix d a start mid
 hi:dZ T ix d mid e b
 up:∀p q,a<=p->p<mid->mid<=q->q<b->T d[p]! d[q]!
theorem xy {T:α->α->Prop} {ix:α->Nat} {d d1:Array α} {a m b start mid e:Nat} (hT:∀x y z,T x y->T y z->T x z) (H:dZ T ix d a m b) (h1:a<=start) (h2:start<=m) (h3:m<=e) (h4:e<=b) (h5:start + (e - m)=mid)
  (hr:gJ d d1 start m e) (ha:a<start->e<b->T d[start - 1]! d[e]!) (hb:start<m->m<e->T d[e - 1]! d[start]!):np T ix d1 a start mid e b:=by
 have r1:∀p,p<start\/e<=p->d1[p]! =d[p]! :=fun p hp=>hr.out h2 h3 hp
 have r2:∀p,start<=p->p<mid->d1[p]! =d[p - start + m]! :=fun p g1 g2=>hr.lo g1 (by omega)
 have r3:∀p,mid<=p->p<e->d1[p]! =d[p - (e - m)]! :=fun p g1 g2=>hr.hi (by omega) g2
 have up1:∀p q,a<=p->p<start->e<=q->q<b->T d[p]! d[q]! :=fun p q g1 g2 g3 g4=>by
  have hm:=ha (by omega) (by omega)
  have t1:T d[p]! d[e]! :=by
   by_cases c:p=start - 1
   ·subst c;exact hm
   ·exact hT _ _ _ (H.s1 p (start - 1) g1 (by omega) (by omega)) hm
  by_cases c:q=e
  ·subst c;exact t1
  ·exact hT _ _ _ t1 (H.s2 e q h3 (by omega) g4)
 have up2:∀p q,m<=p->p<e->start<=q->q<m->T d[p]! d[q]! :=fun p q g1 g2 g3 g4=>by
  have hm:=hb (by omega) (by omega)
  have t1:T d[p]! d[start]! :=by
   by_cases c:p=e - 1
   ·subst c;exact hm
   ·exact hT _ _ _ (H.s2 p (e - 1) g1 (by omega) (by omega)) hm
  by_cases c:q=start
  ·subst c;exact t1
  ·exact hT _ _ _ t1 (H.s1 start q h1 (by omega) g4)
 refine⟨⟨fun p q g1 g2 g3=>?_,fun p q g1 g2 g3=>?_,fun p q g1 g2 g3 g4=>?_⟩,⟨fun p q g1 g2 g3=>?_,fun p q g1 g2 g3=>?_,fun p q g1 g2 g3 g4=>?_⟩,fun p q g1 g2 g3 g4=>?_⟩
 ·rw[r1 p (by omega),r1 q (by omega)];exact H.s1 p q g1 g2 (by omega)
 ·rw[r2 p g1 (by omega),r2 q (by omega) g3];exact H.s2 _ _ (by omega) (by omega) (by omega)
 ·rw[r1 p (by omega),r2 q g3 g4];exact H.cross _ _ g1 (by omega) (by omega) (by omega)
 ·rw[r3 p g1 (by omega),r3 q (by omega) g3];exact H.s1 _ _ (by omega) (by omega) (by omega)
 ·rw[r1 p (by omega),r1 q (by omega)];exact H.s2 p q (by omega) g2 g3
 ·rw[r3 p g1 g2,r1 q (by omega)];exact H.cross _ _ (by omega) (by omega) (by omega) g4
 ·by_cases c1:p<start
  ·rw[r1 p (by omega)]
   by_cases c2:q<e
   ·rw[r3 q g3 c2];exact H.s1 _ _ g1 (by omega) (by omega)
   ·rw[r1 q (by omega)];exact up1 p q g1 c1 (by omega) g4
  ·rw[r2 p (by omega) g2]
   by_cases c2:q<e
   ·rw[r3 q g3 c2];exact up2 _ _ (by omega) (by omega) (by omega) (by omega)
   ·rw[r1 q (by omega)];exact H.s2 _ _ (by omega) (by omega) g4
theorem dZ.left_none {T:α->α->Prop} {ix:α->Nat} {d:Array α} {a m b:Nat} (H:dZ T ix d a m b) (h:m<=a) (h':a<=m):Srt T d a b:=fun p q g1 g2 g3=>H.s2 p q (by omega) g2 g3
theorem dZ.right_none {T:α->α->Prop} {ix:α->Nat} {d:Array α} {a m b:Nat} (H:dZ T ix d a m b) (h:b<=m):Srt T d a b:=fun p q g1 g2 g3=>H.s1 p q g1 g2 (by omega)
theorem lF {T:α->α->Prop} {ix:α->Nat} {d d1 d2 d3:Array α} {a m b start mid e:Nat} (h1:a<=start) (h2:start<=m) (h3:m<=e) (h4:e<=b) (h5:start + (e - m)=mid) (hr:gJ d d1 start m e)
  (Q:np T ix d1 a start mid e b) (M1:ct T d1 d2 a mid) (M2:ct T d2 d3 mid b):ct T d d3 a b:=by
 have hs:∀p,a<=p->p<b->∃q,a<=q/\q<b/\d1[p]! =d[q]! :=fun p g1 g2=>by
  by_cases c1:p<start\/e<=p
  ·exact⟨p,g1,g2,hr.out h2 h3 c1⟩
  ·by_cases c2:p<mid
   ·exact⟨_,by omega,by omega,hr.lo (by omega) (by omega)⟩
   ·exact⟨_,by omega,by omega,hr.hi (p:=p) (by omega) (by omega)⟩
 have hs2:∀p,a<=p->p<mid->∃q,a<=q/\q<mid/\d3[p]! =d1[q]! :=fun p g1 g2=>by
  rw[M2.out p (Or.inl g2)];exact M1.src p g1 g2
 have hs3:∀p,mid<=p->p<b->∃q,mid<=q/\q<b/\d3[p]! =d1[q]! :=fun p g1 g2=>by
  obtain⟨q,q1,q2,q3⟩:=M2.src p g1 g2
  exact⟨q,q1,q2,by rw[q3,M1.out q (Or.inr q1)]⟩
 refine⟨by rw[M2.size,M1.size,hr.1],fun p hp=>?_,fun p g1 g2=>?_,fun p q g1 g2 g3=>?_⟩
 ·rw[M2.out p (by omega),M1.out p (by omega),hr.out h2 h3 (by omega)]
 ·by_cases c:p<mid
  ·obtain⟨q,q1,q2,q3⟩:=hs2 p g1 c
   rw[q3];exact hs q q1 (by omega)
  ·obtain⟨q,q1,q2,q3⟩:=hs3 p (by omega) g2
   rw[q3];exact hs q (by omega) q2
 ·by_cases c:q<mid
  ·rw[M2.out p (by omega),M2.out q (by omega)];exact M1.srt p q g1 g2 c
  ·by_cases c2:p<mid
   ·obtain⟨p',p1,p2,p3⟩:=hs2 p g1 c2
    obtain⟨q',q1,q2,q3⟩:=hs3 q (by omega) g3
    rw[p3,q3];exact Q.up _ _ p1 p2 q1 q2
   ·exact M2.srt p q (by omega) g2 g3
structure Good (T:α->α->Prop) (ix:α->Nat) (d:Array α) (lo hi:Nat):Prop where
 own:∀p,lo<=p->p<hi->lo<=ix d[p]!/\ix d[p]!<hi
 srt:Srt T d lo hi
theorem Good.merged {T:α->α->Prop} {ix:α->Nat} {d d':Array α} {lo hi:Nat} (own:∀p,lo<=p->p<hi->lo<=ix d[p]!/\ix d[p]!<hi) (M:ct T d d' lo hi):Good T ix d' lo hi:=
 ⟨fun p h1 h2=>by obtain⟨q,q1,q2,q3⟩:=M.src p h1 h2;rw[q3];exact own q q1 q2,M.srt⟩
theorem Good.kept {T:α->α->Prop} {ix:α->Nat} {d d':Array α} {lo hi a b:Nat} (G:Good T ix d lo hi) (M:ct T d d' a b) (h:hi<=a\/b<=lo):Good T ix d' lo hi:=
 ⟨fun p h1 h2=>by rw[M.out p (by omega)];exact G.own p h1 h2,fun p q h1 h2 h3=>by rw[M.out p (by omega),M.out q (by omega)];exact G.srt p q h1 h2 h3⟩
theorem Good.halves {T:α->α->Prop} {ix:α->Nat} {d:Array α} {a m b:Nat} (G1:Good T ix d a m) (G2:Good T ix d m b):dZ T ix d a m b:=
 ⟨G1.srt,G2.srt,fun p q h1 h2 h3 h4=>by have:=(G1.own p h1 h2).2;have:=(G2.own q h3 h4).1;omega⟩
theorem Good.own2 {T:α->α->Prop} {ix:α->Nat} {d:Array α} {a m b:Nat} (G1:Good T ix d a m) (G2:Good T ix d m b) (ham:a<=m) (hmb:m<=b):∀p,a<=p->p<b->a<=ix d[p]!/\ix d[p]!<b:=fun p h1 h2=>by
 by_cases c:p<m
 ·have:=G1.own p h1 c;omega
 ·have:=G2.own p (by omega) h2;omega
end Go.Proofs.YtfnekbfcndkjeaaGreatDoor.Srt
namespace Go.Proofs.YtfnekbfcndkjeaaGreatDoor.Srt
open Go.Sort
variable {α : Type} [Inhabited α] {T : α -> α -> Prop} {ix : α -> Nat}
def ie (T:α->α->Prop) (ix:α->Nat) (d:Array α) (bs n:Nat):Prop:=∀k,Good T ix d (k * bs) (min (k * bs + bs) n)
structure gB (T:α->α->Prop) (ix:α->Nat) (d:Array α) (bs n q:Nat):Prop where
 done:∀j,j<q->Good T ix d (j * (2 * bs)) (j * (2 * bs) + 2 * bs)
 rest:∀j,2 * q<=j->Good T ix d (j * bs) (min (j * bs + bs) n)
theorem Good.none {d:Array α} {lo hi:Nat} (h:hi<=lo):Good T ix d lo hi:=⟨fun p h1 h2=>by omega,fun p q h1 h2 h3=>by omega⟩
theorem gB.start {d:Array α} {bs n:Nat} (h:ie T ix d bs n):gB T ix d bs n 0:=⟨fun j hj=>by omega,fun j _=>h j⟩
theorem iF (q bs:Nat):2 * q * bs=q * (2 * bs):=by rw[Nat.mul_comm 2 q,Nat.mul_assoc]
theorem qF (q bs:Nat):(2 * q + 1) * bs=q * (2 * bs) + bs:=by rw[Nat.succ_mul,iF]
theorem jo {j q:Nat} (bs:Nat) (h:j<q):j * (2 * bs) + 2 * bs<=q * (2 * bs):=by
 have:=Nat.mul_le_mul_right (2 * bs) (Nat.succ_le_of_lt h)
 rw[Nat.succ_mul] at this
 exact this
theorem uL {j q:Nat} (bs:Nat) (h:2 * q + 2<=j):q * (2 * bs) + 2 * bs<=j * bs:=by
 have:=Nat.mul_le_mul_right bs h
 rw[show 2 * q + 2=2 * (q + 1) by omega,iF,Nat.succ_mul] at this
 exact this
theorem gB.first {d:Array α} {bs n q a:Nat} (h:gB T ix d bs n q) (ha:a=q * (2 * bs)) (hb:a + bs<=n):Good T ix d a (a + bs):=by
 have:=h.rest (2 * q) (Nat.le_refl _)
 rw[iF,<-ha,Nat.min_eq_left hb] at this
 exact this
theorem gB.second {d:Array α} {bs n q a:Nat} (h:gB T ix d bs n q) (ha:a=q * (2 * bs)):Good T ix d (a + bs) (min (a + 2 * bs) n):=by
 have:=h.rest (2 * q + 1) (by omega)
 rw[qF,<-ha,show a + bs + bs=a + 2 * bs by omega] at this
 exact this
theorem gB.step {d d':Array α} {bs n q a:Nat} (h:gB T ix d bs n q) (ha:a=q * (2 * bs)) (hb:a + 2 * bs<=n) (M:ct T d d' a (a + 2 * bs)):gB T ix d' bs n (q + 1):=by
 have g1:=h.first ha (by omega)
 have g2:=h.second ha
 rw[Nat.min_eq_left hb] at g2
 refine⟨fun j hj=>?_,fun j hj=>?_⟩
 ·by_cases c:j=q
  ·subst c;rw[<-ha];exact Good.merged (g1.own2 g2 (by omega) (by omega)) M
  ·have:=jo bs (show j<q by omega)
   exact (h.done j (by omega)).kept M (Or.inl (by omega))
 ·have:=uL (q:=q) bs (show 2 * q + 2<=j by omega)
  exact (h.rest j (by omega)).kept M (Or.inr (by omega))
theorem gB.finish {d d':Array α} {bs n q a:Nat} (h:gB T ix d bs n q) (ha:a=q * (2 * bs)) (hn:n<a + 2 * bs) (hb:a + bs<n) (M:ct T d d' a n):ie T ix d' (2 * bs) n:=by
 have g1:=h.first ha (by omega)
 have g2:=h.second ha
 rw[Nat.min_eq_right (by omega)] at g2
 intro k
 by_cases c:k=q
 ·subst c
  rw[<-ha,Nat.min_eq_right (by omega)]
  exact Good.merged (g1.own2 g2 (by omega) (by omega)) M
 ·by_cases c2:k<q
  ·have:=jo bs c2
   rw[Nat.min_eq_left (by omega)]
   exact (h.done k c2).kept M (Or.inl (by omega))
  ·have:=jo bs (show q<k by omega)
   exact Good.none (by omega)
theorem gB.finish_none {d:Array α} {bs n q a:Nat} (h:gB T ix d bs n q) (ha:a=q * (2 * bs)) (hn:n<a + 2 * bs) (ha':a<=n) (hb:n<=a + bs):ie T ix d (2 * bs) n:=by
 intro k
 by_cases c:k=q
 ·subst c
  rw[<-ha,Nat.min_eq_right (by omega)]
  have:=h.rest (2 * k) (Nat.le_refl _)
  rw[iF,<-ha,Nat.min_eq_right (by omega)] at this
  exact this
 ·by_cases c2:k<q
  ·have:=jo bs c2
   rw[Nat.min_eq_left (by omega)]
   exact h.done k c2
  ·have:=jo bs (show q<k by omega)
   exact Good.none (by omega)
theorem ie.of20 {d:Array α} {n q:Nat} (h:∀k,k<q->Good T ix d (20 * k) (20 * k + 20)) (hq:20 * q<=n) (hn:n<20 * q + 20) (g:Good T ix d (20 * q) n):ie T ix d 20 n:=by
 intro k
 rw[Nat.mul_comm k 20]
 by_cases c:k=q
 ·subst c;rw[Nat.min_eq_right (by omega)];exact g
 ·by_cases c2:k<q
  ·rw[Nat.min_eq_left (by omega)];exact h k c2
  ·exact Good.none (by omega)
theorem ie.all {d:Array α} {bs n:Nat} (h:ie T ix d bs n) (hb:n<=bs):Good T ix d 0 n:=by
 have:=h 0
 rw[Nat.zero_mul,Nat.min_eq_right (by omega)] at this
 exact this
theorem gS {d:Array α} {a b:Nat} (h:∀p,a<=p->p<b->ix d[p]! =p):(∀ p,a<=p->p<b->a<=ix d[p]!/\ix d[p]!<b)/\(∀ p q,a<=p->p<q->q<b->ix d[p]!<ix d[q]!):=
 ⟨fun p h1 h2=>by rw[h p h1 h2];exact⟨h1,h2⟩,fun p q h1 h2 h3=>by rw[h p h1 (by omega),h q (by omega) h3];exact h2⟩
end Go.Proofs.YtfnekbfcndkjeaaGreatDoor.Srt
