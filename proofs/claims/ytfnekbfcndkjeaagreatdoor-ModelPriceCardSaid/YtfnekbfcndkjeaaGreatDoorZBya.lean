/- A text as bytes in memory, one of them turned; what that leaves of a text. -/
import Derived.Test.YtfnekbfcndkjeaaGreatDoorZSame2
set_option linter.all false
namespace Go.Proofs.YtfnekbfcndkjeaaGreatDoor
open Go.Proofs.Tryz Go.RowKit
def y8 (K:Nat->Int) (F:S8) (t:ByteArray):ByteArray:=strOfNums (seg (fQ (jH K F t)) 0 32)
theorem Az (z:S8) (j:Nat):0<=fQ z j/\fQ z j<=255:=by unfold fQ;omega
theorem y9 (z:S8):Bs (seg (fQ z) 0 32):=fun x hx=>by
 obtain⟨i,_,rfl⟩:=List.mem_map.1 hx
 exact Az z _
theorem uJ (K:Nat->Int) (F:S8) (t:ByteArray) (j:Nat) (hj:j<32):bf (y8 K F t) j=fQ (jH K F t) j:=by
 rw[y8,pp _ (y9 _),List.getD_eq_getElem?_getD,po _ _ _ _ hj,Nat.zero_add]
 rfl
theorem pG (K:Nat->Int) (F:S8) (t:ByteArray):(bL (jH K F t)).toList=(seg (bf (y8 K F t)) 0 32).map (Value.int .u8):=by
 apply List.ext_getElem?
 intro i
 by_cases hi:i<32
 ·rw[Array.getElem?_toList,i9 _ i hi,List.getElem?_map,po _ _ _ _ hi,Nat.zero_add,uJ K F t i hi]
  rfl
 ·rw[List.getElem?_eq_none (by simp[cJ];omega),List.getElem?_eq_none (by rw[List.length_map,jZ];omega)]
structure iX (w:World) (b:Nat) (s:ByteArray):Prop where
 len:s.size=32
 cell:∀j,j<32->w.cell? ⟨b,j,none⟩=some (.int .u8 (bf s j))
 free:∀j,w.frozen? ⟨b,j,none⟩=false
theorem iX.lt {w:World} {b:Nat} {s:ByteArray} (h:iX w b s):b<w.heap.size:=aC (h.cell 0 (by omega))
theorem iX.on {w w':World} {b:Nat} {s:ByteArray} (h:iX w b s) (hb:Below w.heap.size w w'):iX w' b s:=
 ⟨h.len,fun j hj=>(hb.cell (p:=⟨b,j,none⟩) h.lt).trans (h.cell j hj),fun j=>(hb.frozen (p:=⟨b,j,none⟩) h.lt).trans (h.free j)⟩
theorem iX.keeps {K:Nat->Prop} {w w':World} {b:Nat} {s:ByteArray} (h:iX w b s) (hk:am K w w') (hK:K b):iX w' b s:=
 ⟨h.len,fun j hj=>aJ (h.cell j hj) hk hK,fun j=>(World.frozen?_of_block (w:=w) (a:=⟨b,j,none⟩) (hk.block b h.lt hK)).trans (h.free j)⟩
theorem iX.nums {w:World} {b:Nat} {s:ByteArray} (h:iX w b s):∀i,i<32->w.cell? ⟨b,0 + i,none⟩=some (.int .u8 ((cj s).getD i 0)):=by
 intro i hi
 rw[Nat.zero_add,h.cell i hi,gO]
theorem cV.keeps {F:S8} {K:Nat->Int} {kk:Array Value} {w w':World} {b:Nat} (h:cV F K kk w) (hk:am (·≠b) w w') (h1:1≠b) (h2:2≠b):cV F K kk w':=
 ⟨fun j hj=>aJ (h.first j hj) hk h1,h.rounds.of_block (hk.block _ h.rounds.lt h2),h.size,h.get,h.ok⟩
structure kK (w:World) (b:Nat) (t s:ByteArray) (n:Int):Prop where
 sum:iX w b s
 text:w.cell? ⟨b,32,none⟩=some (.string t)
 many:w.cell? ⟨b,33,none⟩=some (.int .i64 n)
theorem kK.on {w w':World} {b:Nat} {t s:ByteArray} {n:Int} (h:kK w b t s n) (hb:Below w.heap.size w w'):kK w' b t s n:=
 ⟨h.sum.on hb,(hb.cell (p:=⟨b,32,none⟩) h.sum.lt).trans h.text,(hb.cell (p:=⟨b,33,none⟩) h.sum.lt).trans h.many⟩
theorem kK.keeps {K:Nat->Prop} {w w':World} {b:Nat} {t s:ByteArray} {n:Int} (h:kK w b t s n) (hk:am K w w') (hK:K b):kK w' b t s n:=
 ⟨h.sum.keeps hk hK,aJ h.text hk hK,aJ h.many hk hK⟩
theorem kK.sums {w w':World} {b:Nat} {t s s':ByteArray} {n:Int} (h:kK w b t s n) (hs:iX w' b s') (ho:∀j,32<=j->w'.cell? ⟨b,j,none⟩=w.cell? ⟨b,j,none⟩):kK w' b t s' n:=
 ⟨hs,(ho 32 (by omega)).trans h.text,(ho 33 (by omega)).trans h.many⟩
section
variable {S : ByteArray -> ByteArray} (hS : ∀ x, (S x).size = 32)
end
structure gz (w:World) (b:Nat) (xs:List Int):Prop where
 cell:∀j,j<xs.length->w.cell? ⟨b,j,none⟩=some (.int .u8 (xs.getD j 0))
 free:∀j,j<xs.length->w.frozen? ⟨b,j,none⟩=false
theorem gz.conv (w:World) (s:ByteArray):gz (Lib.bytesWorld w 5 s) w.heap.size (cj s):=by
 refine⟨fun j hj=>?_,fun j hj=>?_⟩
 ·rw[bp] at hj
  rw[Lib.bytesWorld_cell w 5 s j hj,<-gO]
  rfl
 ·rw[bp] at hj
  have h:=Lib.bytesWorld_at_new w 5 s
  have hs:s.size<=(Lib.bytesCells w 5 s).size:=by simp[Lib.bytesCells]
  unfold World.frozen?
  simp only[h]
  simp
  omega
theorem gz.set {w:World} {b:Nat} {xs:List Int} (h:gz w b xs) (j:Nat) (hj:j<xs.length) (y:Int):gz (w.setCell ⟨b,j,none⟩ (.int .u8 y)) b (xs.set j y):=by
 refine⟨fun i hi=>?_,fun i hi=>by rw[World.frozen?_setCell];exact h.free i (by simpa using hi)⟩
 rw[List.length_set] at hi
 by_cases e:i=j
 ·subst e
  rw[World.cell?_setCell_same _ _ _ (h.cell i hj)]
  simp[List.getD_eq_getElem?_getD,List.getElem?_set_self hj]
 ·rw[World.cell?_setCell_other _ _ _ _ (by simp <;> omega),h.cell i hi]
  simp[List.getD_eq_getElem?_getD,List.getElem?_set_ne (Ne.symm e)]
theorem gz.on {w w':World} {b:Nat} {xs:List Int} (h:gz w b xs) (hb:b<w.heap.size) (hn:Below w.heap.size w w'):gz w' b xs:=
 ⟨fun j hj=>(hn.cell (p:=⟨b,j,none⟩) hb).trans (h.cell j hj),fun j hj=>(hn.frozen (p:=⟨b,j,none⟩) hb).trans (h.free j hj)⟩
theorem gz.keeps {K:Nat->Prop} {w w':World} {b:Nat} {xs:List Int} (h:gz w b xs) (hb:b<w.heap.size) (hk:am K w w') (hK:K b):gz w' b xs:=
 ⟨fun j hj=>aJ (h.cell j hj) hk hK,fun j hj=>(World.frozen?_of_block (w:=w) (a:=⟨b,j,none⟩) (hk.block b hb hK)).trans (h.free j hj)⟩
theorem m7 (b:Nat) (xs:List Int) (n cap:Nat) (hn:xs.length=n) (w:World) (h:gz w b xs):(convert 22 9 (.slice (some ⟨b,0,none⟩) n cap)).run prog w=.ok (.string (strOfNums xs)) w:=
 run_convert_bytes_arg (P:=prog) (w:=w) 22 5 underlying22 underlying5 b 0 n cap xs hn (fun i hi=>by rw[Nat.zero_add];exact h.cell i (by omega)) 9 underlying9
theorem AA {l:List Int} (h:Bs l) (p:Nat) {y:Int} (hy:0<=y/\y<=255):Bs (l.set p y):=fun x hx=>by
 rcases List.mem_or_eq_of_mem_set hx with h' | rfl
 ·exact h x h'
 ·exact hy
