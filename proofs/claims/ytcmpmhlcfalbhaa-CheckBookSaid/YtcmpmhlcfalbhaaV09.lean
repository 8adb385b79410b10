import Derived.Test.YtcmpmhlcfalbhaaV04
import Derived.Test.YtcmpmhlcfalbhaaV01
import Derived.Deep.MidRow
namespace Go.Proofs.Ytcmpmhlcfalbhaa
section
open Go.RowKit
structure BW (B:Nat) (w0:World) where
 w:World
 h:Below B w0 w
instance {B:Nat} {w0:World}:Nonempty (BW B w0):=⟨⟨w0,Below.refl _ _⟩⟩
theorem BW.cell {B:Nat} {w0:World} (x:BW B w0) {b o:Nat} (hb:b<B):x.w.cell? ⟨b,o,none⟩=w0.cell? ⟨b,o,none⟩:=(bcell x.h).1 b o hb
theorem BW.blk {B:Nat} {w0:World} (x:BW B w0) {g:Nat} {t:TypeId} {cs:Array Value} (h:Blk w0 g t cs) (hg:g<B):Blk x.w g t cs:=h.below x.h hg
theorem Calls.inBat {P:Program} {f:FuncId} {args:Array Value} {B:Nat} {w0:World} {v:Value} (x:BW B w0) (h:Calls P f args x.w fun e w'=>e= .returned v∧Below x.w.heap.size x.w w') (hB:B≤w0.heap.size):
  Calls P f args x.w fun e w''=>e= .returned v∧∃y:BW B w0,w''=y.w:=
 h.mono fun _ _ ⟨he,hb⟩=>⟨he,⟨_,x.h.trans (hb.mono (by have:=x.h.size;omega))⟩,rfl⟩
theorem region_inB {P:Program} {id:Nat} {Q:Exit→Act→World→Prop} {a:Act} {w:World} {l:List Oper} (B:Nat) (w0:World) (hw:Below B w0 w) (hm:P.follows .mixedOrders=true) (hB:Region.lexB .any l.toArray=true)
  (h:wpQuiet P l.toArray (fun w'=>∃x:BW B w0,w'=x.w) (fun a'=>∀w',Below B w0 w'→Q .normal a' w') l a):(Code.region id l.toArray true).wp P Q a w:=by
 refine region_quiet (fun w'=>∃x:BW B w0,w'=x.w) hm hB ⟨⟨_,below_drewN hw 1⟩,rfl⟩ ?_
 have e:(fun a'=>∀w',Below B w0 w'→Q .normal a' w')=(fun a'=>∀w',(∃x:BW B w0,w'=x.w)→Q .normal a' w'):=by
  funext a'
  apply propext;exact ⟨fun h w' ⟨x,hx⟩=>by rw[hx];exact h _ x.h,fun h w' hb=>h w' ⟨⟨w',hb⟩,rfl⟩⟩
 rw[←e]
 exact h
end
section
open Go.RowKit
theorem own_set {w:World} {e:TypeId} {base size g n c:Nat} {vs:List Value} (h:Own w base e size (some ⟨g,0,none⟩) n c vs) (j:Nat) (u:Value):Own (w.setCell ⟨g,j,none⟩ u) base e size (some ⟨g,0,none⟩) n c (vs.set j u):=by
 obtain ⟨hl,h2⟩:=h;rcases h2 with ⟨hv,_⟩|⟨g',cap,cur,hv,hg,hh,hnc,hcm,hcs,htake⟩
 ·injection hv with h1;cases h1
 injection hv with h1 h2 h3
 cases h1;subst h3;have hb:Blk w g e cur.toList.toArray:=by simpa [Blk] using hh
 have hb2:=Blk.setL (cs:=cur.toList) hb j u;refine ⟨by simpa using hl,.inr ⟨g,c,(cur.toList.set j u).toArray,rfl,hg,hb2,hnc,hcm,by simpa using hcs,?_⟩⟩
 show (cur.toList.set j u).take (n*size)=vs.set j u
 rw[List.take_set,htake]
theorem own_at {w:World} {e:TypeId} {base size g n c:Nat} {vs:List Value} (h:Own w base e size (some ⟨g,0,none⟩) n c vs) (j:Nat) (hj:j<vs.length):w.cell? ⟨g,j,none⟩=some vs[j]∧w.frozen? ⟨g,j,none⟩=false∧g<w.heap.size:=by
 have hlt:=(Own.row h g rfl).2;obtain ⟨hl,h2⟩:=h;rcases h2 with ⟨hv,_⟩|⟨g',cap,cur,hv,hg,hh,hnc,hcm,hcs,htake⟩
 ·injection hv with h1;cases h1
 injection hv with h1 h2 h3
 cases h1;subst h3;have hb:Blk w g e cur.toList.toArray:=by simpa [Blk] using hh
 refine ⟨?_,hb.frozen j,hlt⟩;rw[hb.at_];have h3:vs[j]?=some vs[j]:=List.getElem?_eq_getElem hj;have h4:cur.toList[j]?=(cur.toList.take (n*size))[j]?:=by rw[List.getElem?_take,if_pos (by omega)]
 rw[h4,htake];exact h3
theorem own_some {w:World} {e:TypeId} {base size n c:Nat} {A:Option Addr} {vs:List Value} (h:Own w base e size A n c vs) (hn:0<n):∃g,A=some ⟨g,0,none⟩∧base≤g∧g<w.heap.size:=by
 rcases h.2 with ⟨hv,h0⟩|⟨g',cap,cur,hv,hg,hh,hnc,hcm,hcs,htake⟩
 ·omega
 injection hv with h1
 exact ⟨g',h1,hg,(Array.getElem?_eq_some_iff.1 hh).1⟩
theorem own_ne {w:World} {b1 b2 s1 s2 n1 n2 c1 c2:Nat} {e1 e2:TypeId} {A1 A2:Option Addr} {v1 v2:List Value} (h1:Own w b1 e1 s1 A1 n1 c1 v1) (h2:Own w b2 e2 s2 A2 n2 c2 v2) (hne:e1≠e2) (b:Nat) (e:A1.map (·.block)=some b):A2.map (·.block)≠some b:=by
 intro e';rcases h1.2 with ⟨hv,_⟩|⟨g,cap,cur,hv,_,hh,_⟩
 ·injection hv with h;rw[h] at e;cases e
 rcases h2.2 with ⟨hv',_⟩|⟨g',cap',cur',hv',_,hh',_⟩
 ·injection hv' with h;rw[h] at e';cases e'
 injection hv with h _ _
 injection hv' with h' _ _
 rw[h] at e;rw[h'] at e';injection e with e
 injection e' with e'
 dsimp only at e e';subst e e';rw[hh] at hh';injection hh' with hh'
 injection hh' with _ ht
 exact hne ht
end
end Go.Proofs.Ytcmpmhlcfalbhaa
