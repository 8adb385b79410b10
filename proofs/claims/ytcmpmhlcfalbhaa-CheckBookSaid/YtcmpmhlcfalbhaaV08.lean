import Derived.Test.YtcmpmhlcfalbhaaV07
import Derived.Test.YtcmpmhlcfalbhaaV01
import Derived.ArgAppend
namespace Go.Proofs.Ytcmpmhlcfalbhaa
section
open Go.RowKit
structure Fun where
 args:Int
 locals:Int
 results:Int
 code:List Ins
structure Prg where
 mem:Int
 data:List UInt8
 fs:List Fun
structure FunM where
 args:Int
 locals:Int
 results:Int
 A:Option Addr
 c:Nat
 code:List Ins
def FunM.plain (f:FunM):Fun:=⟨f.args,f.locals,f.results,f.code⟩
def funCells (f:FunM):List Value:=[.int .i64 f.args,.int .i64 f.locals,.int .i64 f.results,.slice f.A f.code.length f.c]
structure PrgM where
 mem:Int
 AD:Option Addr
 cD:Nat
 data:List UInt8
 AF:Option Addr
 cF:Nat
 fs:List FunM
def PrgM.plain (p:PrgM):Prg:=⟨p.mem,p.data,p.fs.map FunM.plain⟩
abbrev PrgM.val (p:PrgM):Value:=.agg #[.int .i64 p.mem,.slice p.AD p.data.length p.cD,.slice p.AF p.fs.length p.cF]
structure FunAt (w:World) (f:FunM):Prop where
 rv:RV w f.A (f.code.flatMap insCells)
 ok:∀i∈f.code,InsOk i
 nil:f.A=none→f.code.length=0∧f.c=0
 len:f.code.length≤8796093021952
 a1: -9223372036854775808≤f.args
 a2:f.args≤9223372036854775807
 l1: -9223372036854775808≤f.locals
 l2:f.locals≤9223372036854775807
 r1: -9223372036854775808≤f.results
 r2:f.results≤9223372036854775807
structure PrgAt (w:World) (p:PrgM):Prop where
 data:Sl w ⟨p.AD,p.cD,p.data⟩
 dlen:p.data.length≤140737488351232
 rv:RV w p.AF (p.fs.flatMap funCells)
 nil:p.AF=none→p.fs.length=0∧p.cF=0
 flen:p.fs.length≤2932031007402
 funs:∀f∈p.fs,FunAt w f
 m1: -9223372036854775808≤p.mem
 m2:p.mem≤9223372036854775807
theorem FunAt.below {w w':World} {f:FunM} (h:FunAt w f) (hb:Below w.heap.size w w'):FunAt w' f:=⟨h.rv.below hb,h.ok,h.nil,h.len,h.a1,h.a2,h.l1,h.l2,h.r1,h.r2⟩
theorem PrgAt.below {w w':World} {p:PrgM} (h:PrgAt w p) (hb:Below w.heap.size w w'):PrgAt w' p:=⟨h.data.below hb,h.dlen,h.rv.below hb,h.nil,h.flen,fun f hf=>(h.funs f hf).below hb,h.m1,h.m2⟩
theorem funCells_len (l:List FunM):(l.flatMap funCells).length=l.length*4:=by
 induction l with
 |nil=>rfl
 |cons x l ih=>rw[List.flatMap_cons,List.length_append,ih,List.length_cons];simp[funCells];omega
theorem funCells_get (l:List FunM) (k j:Nat) (hk:k<l.length) (hj:j<4):(l.flatMap funCells)[k*4+j]?=(funCells l[k])[j]?:=by
 induction l generalizing k with
 |nil=>cases hk
 |cons x l ih=>
  rw[List.flatMap_cons];cases k with
  |zero=>
   rw[Nat.zero_mul,Nat.zero_add,List.getElem?_append_left (by simp[funCells];omega)]
   rfl
  |succ k=>
   rw[List.getElem?_append_right (by simp[funCells];omega),show (k+1)*4+j-(funCells x).length=k*4+j from by simp[funCells];omega]
   exact ih k (by simpa using hk)
theorem fun_cells {w:World} {b off:Nat} {l:List FunM} (hc:∀j u,(l.flatMap funCells)[j]?=some u→w.cell? ⟨b,off+j,none⟩=some u) (k:Nat) (hk:k<l.length):
  w.cell? ⟨b,off+k*4,none⟩=some (.int .i64 l[k].args)∧w.cell? ⟨b,off+k*4+1,none⟩=some (.int .i64 l[k].locals)∧w.cell? ⟨b,off+k*4+2,none⟩=some (.int .i64 l[k].results)∧w.cell? ⟨b,off+k*4+3,none⟩=some (.slice l[k].A l[k].code.length l[k].c):=by
 have q0:=hc _ _ (funCells_get l k 0 hk (by omega))
 have q1:=hc _ _ (funCells_get l k 1 hk (by omega))
 have q2:=hc _ _ (funCells_get l k 2 hk (by omega))
 have q3:=hc _ _ (funCells_get l k 3 hk (by omega))
 rw[←Nat.add_assoc] at q1 q2 q3
 exact ⟨q0,q1,q2,q3⟩
def badF (f:Fun):Bool:=decide (f.args<0∨16<f.args∨f.locals<f.args∨64<f.locals∨f.results<0∨1<f.results∨(f.code.length:Int)<1∨4096<(f.code.length:Int))
def checkF:List Fun→Int
 |[]=>0
 |f::l=>if badF f=true then 121 else if (encL f.code).2=0 then checkF l else (encL f.code).2
def badH (p:Prg):Bool:=decide (p.mem<0∨65536<p.mem∨p.mem<(p.data.length:Int)∨(p.fs.length:Int)<1∨64<(p.fs.length:Int))
def checkL (p:Prg):Int:=if badH p=true then 121 else checkF p.fs
theorem badF_cases {f:Fun} (h:badF f=true):f.args<0∨(¬ f.args<0∧16<f.args)∨(¬ f.args<0∧¬ 16<f.args∧f.locals<f.args)∨(¬ f.args<0∧¬ 16<f.args∧¬ f.locals<f.args∧64<f.locals)∨(¬ f.args<0∧¬ 16<f.args∧¬ f.locals<f.args∧¬ 64<f.locals∧f.results<0)∨
  (¬ f.args<0∧¬ 16<f.args∧¬ f.locals<f.args∧¬ 64<f.locals∧¬ f.results<0∧1<f.results)∨(¬ f.args<0∧¬ 16<f.args∧¬ f.locals<f.args∧¬ 64<f.locals∧¬ f.results<0∧¬ 1<f.results∧(f.code.length:Int)<1)∨
  (¬ f.args<0∧¬ 16<f.args∧¬ f.locals<f.args∧¬ 64<f.locals∧¬ f.results<0∧¬ 1<f.results∧¬ (f.code.length:Int)<1∧4096<(f.code.length:Int)):=by
 unfold badF at h
 rw[decide_eq_true_eq] at h
 omega
theorem badF_not {f:Fun} (h:badF f=false): ¬ f.args<0∧¬ 16<f.args∧¬ f.locals<f.args∧¬ 64<f.locals∧¬ f.results<0∧¬ 1<f.results∧¬ (f.code.length:Int)<1∧¬ 4096<(f.code.length:Int):=by
 unfold badF at h;rw[decide_eq_false_iff_not] at h;omega
theorem badH_cases {p:Prg} (h:badH p=true):p.mem<0∨(¬ p.mem<0∧65536<p.mem)∨(¬ p.mem<0∧¬ 65536<p.mem∧p.mem<(p.data.length:Int))∨(¬ p.mem<0∧¬ 65536<p.mem∧¬ p.mem<(p.data.length:Int)∧(p.fs.length:Int)<1)∨
  (¬ p.mem<0∧¬ 65536<p.mem∧¬ p.mem<(p.data.length:Int)∧¬ (p.fs.length:Int)<1∧64<(p.fs.length:Int)):=by
 unfold badH at h
 rw[decide_eq_true_eq] at h
 omega
theorem badH_not {p:Prg} (h:badH p=false): ¬ p.mem<0∧¬ 65536<p.mem∧¬ p.mem<(p.data.length:Int)∧¬ (p.fs.length:Int)<1∧¬ 64<(p.fs.length:Int):=by
 unfold badH at h;rw[decide_eq_false_iff_not] at h;omega
end
section
open Go.RowKit
variable {P:Program} {w:World}
theorem run_app2 {t e:TypeId} {size bytes:Nat} (E:Elem P t e size bytes) (ty:TypeId) {base n c:Nat} {A:Option Addr} {vs:List Value} (hown:Own w base e size A n c vs)
  {a':Addr} {m c':Nat} {us:List Value} (hr:RV w (some a') us) (hl:us.length=m*size) (h1:∀u∈us,u.oneCell'=true) (_hm:0<m)
  (h63:n+m≤maxLen) (hbytes:(n+m)*bytes≤140737488355328) (hbase:base≤w.heap.size):
  ∃A2 c2 w',(Builtin.append_ #[t,t] ty #[.slice A n c,.slice (some a') m c']).run P w= .ok (.slice A2 (n+m) c2) w'∧Own w' base e size A2 (n+m) c2 (vs++us)∧
   ((A2=A∧A≠none∧w.grownBy w' (A.map (·.block)))∨((∀b o,A2=some ⟨b,o,none⟩→w.heap.size≤b)∧w.grownBy w' none)):=by
 obtain ⟨i,z,hi,hz,hsize,hby,hzs⟩:=E.hi
 obtain ⟨A2,c2,w',hrun,hown2,hg,hat⟩:=run_app E ty hown hr (c':=c') hl h1 h63 hbytes hbase (fun h=>by cases h)
 have hnews:∀j u,us[j]?=some u→w.cell? (a'.add j)=some u:=by
  intro j u hu;rcases hr with h|⟨b,off,hA,_,hc⟩
  ·subst h;simp at hu
  simp only[Option.some.injEq] at hA;subst hA;rw[addr_add];exact hc j u hu
 rcases hown.2 with ⟨hv,h0⟩|⟨g,cap,cur,hv,hbg,hh,hnc,hcm,hcs,htake⟩
 ·have hA:A=none:=by injection hv
  subst hA;refine ⟨A2,c2,w',hrun,hown2,.inr ⟨fun b o e=>?_,hg⟩⟩;rcases hat with h|h
  ·rw[e] at h;cases h
  rw[e] at h;have:b=w.heap.size:=by simpa using h
  omega
 ·have hA:A=some ⟨g,0,none⟩:=by injection hv
  have hcc:c=cap:=by injection hv
  subst hA hcc;rcases Nat.lt_or_ge c (n+m) with hfull|hroom
  ·have holds:∀j u,vs[j]?=some u→w.cell? ((⟨g,0,none⟩:Addr).add j)=some u:=hown.cells (g:=g) rfl;obtain ⟨v3,w3,hrun3,hown3,hg3⟩:=run_append_arg_grows (P:=P) w t ty e i z size bytes E.ht hi hz hsize hby hzs E.hsz ⟨g,0,none⟩ n c vs hown.1 holds a' m c' us hl hnews hfull h63 hbytes;rw[hrun] at hrun3;injection hrun3 with e1 e2
   subst e1 e2;refine ⟨A2,c2,w',hrun,hown2,.inr ⟨fun b o e=>?_,hg3⟩⟩;exact (Own.row (A:=A2) hown3 b (by rw[e];rfl)).1
  have hfit:n*i.size+us.length≤cur.size:=by rw[hl,hcs,hsize, ←Nat.add_mul];exact Nat.mul_le_mul_right _ hroom
  have hrun3:=run_append_room (P:=P) w t ty e i E.ht hi g n c cur hh a' m c' us (by rw[hsize];exact hl) hnews h1 hroom hfit
  rw[hrun] at hrun3;injection hrun3 with e1 e2
  injection e1 with e3
  subst e3;exact ⟨_,c2,w',hrun,hown2,.inl ⟨rfl,by simp,hg⟩⟩
theorem wpList_app2 {ops:Array Oper} {rest:List Oper} {o:Oper} {a:Act} {Q:Exit→Act→World→Prop} (hgd:o.guard=none) (s x:Operand) {t e:TypeId} {size bytes:Nat} (E:Elem P t e size bytes)
  (ho:o.op= .call {callee:=.builtin .append,args:=#[s,x],argTypes:=#[t,t]})
  {base n c:Nat} {A:Option Addr} {vs:List Value} (hs:a.eval s= .slice A n c) (hown:Own w base e size A n c vs)
  {a':Addr} {m c':Nat} {us:List Value} (hx:a.eval x= .slice (some a') m c') (hr:RV w (some a') us) (hl:us.length=m*size) (h1:∀u∈us,u.oneCell'=true) (hm:0<m)
  (h63:n+m≤maxLen) (hbytes:(n+m)*bytes≤140737488355328) (hbase:base≤w.heap.size)
  (h:∀A2 c2 w',Own w' base e size A2 (n+m) c2 (vs++us)→((A2=A∧A≠none∧w.grownBy w' (A.map (·.block)))∨((∀b o,A2=some ⟨b,o,none⟩→w.heap.size≤b)∧w.grownBy w' none))→wpList P ops Q rest (a.put o.dst (.slice A2 (n+m) c2)) w'):
  wpList P ops Q (o::rest) a w:=by
 refine wpList_plain hgd fun K hK=>?_
 obtain ⟨A2,c2,w',hrun,h2,h3⟩:=run_app2 (P:=P) E o.type hown (c':=c') hr hl h1 hm h63 hbytes hbase
 unfold Oper.wp execOp
 simp only[ho,resolve,invoke,builtin,Sem.run_bind,Sem.run_pure,Result.andThen_ok,List.map_toArray,List.map_cons,List.map_nil,hs,hx,hrun]
 exact hK _ _ (h A2 c2 w' h2 h3)
end
section
open Go.RowKit
theorem ownG_set {w:World} {e:TypeId} {base size g n c:Nat} {vs:List Value} (h:Own w base e size (some ⟨g,0,none⟩) n c vs) (j:Nat) (u:Value):Own (w.setCell ⟨g,j,none⟩ u) base e size (some ⟨g,0,none⟩) n c (vs.set j u):=by
 obtain ⟨hl,h2⟩:=h;rcases h2 with ⟨hv,_⟩|⟨g',cap,cur,hv,hg,hh,hnc,hcm,hcs,htake⟩
 ·injection hv with h1;cases h1
 injection hv with h1 h2 h3
 cases h1;subst h3;have hb:Blk w g e cur.toList.toArray:=by simpa [Blk] using hh
 have hb2:=Blk.setL (cs:=cur.toList) hb j u;refine ⟨by simpa using hl,.inr ⟨g,c,(cur.toList.set j u).toArray,rfl,hg,hb2,hnc,hcm,by simpa using hcs,?_⟩⟩
 show (cur.toList.set j u).take (n*size)=vs.set j u
 rw[List.take_set,htake]
theorem ownG_at {w:World} {e:TypeId} {base size g n c:Nat} {vs:List Value} (h:Own w base e size (some ⟨g,0,none⟩) n c vs) (j:Nat) (hj:j<vs.length):w.cell? ⟨g,j,none⟩=some vs[j]∧w.frozen? ⟨g,j,none⟩=false∧g<w.heap.size:=by
 have hlt:=(Own.row h g rfl).2;obtain ⟨hl,h2⟩:=h;rcases h2 with ⟨hv,_⟩|⟨g',cap,cur,hv,hg,hh,hnc,hcm,hcs,htake⟩
 ·injection hv with h1;cases h1
 injection hv with h1 h2 h3
 cases h1;subst h3;have hb:Blk w g e cur.toList.toArray:=by simpa [Blk] using hh
 refine ⟨?_,hb.frozen j,hlt⟩;rw[hb.at_];have h3:vs[j]?=some vs[j]:=List.getElem?_eq_getElem hj;have h4:cur.toList[j]?=(cur.toList.take (n*size))[j]?:=by rw[List.getElem?_take,if_pos (by omega)]
 rw[h4,htake];exact h3
theorem ownG_some {w:World} {e:TypeId} {base size n c:Nat} {A:Option Addr} {vs:List Value} (h:Own w base e size A n c vs) (hn:0<n):∃g,A=some ⟨g,0,none⟩∧base≤g∧g<w.heap.size:=by
 rcases h.2 with ⟨hv,h0⟩|⟨g',cap,cur,hv,hg,hh,hnc,hcm,hcs,htake⟩
 ·omega
 injection hv with h1
 exact ⟨g',h1,hg,(Array.getElem?_eq_some_iff.1 hh).1⟩
theorem ownG_form {w:World} {e:TypeId} {base size n c:Nat} {A:Option Addr} {vs:List Value} (h:Own w base e size A n c vs) (b:Nat) (hb:A.map (·.block)=some b):A=some ⟨b,0,none⟩∧base≤b∧b<w.heap.size:=by
 rcases h.2 with ⟨hv,h0⟩|⟨g',cap,cur,hv,hg,hh,hnc,hcm,hcs,htake⟩
 ·injection hv with h1;rw[h1] at hb;cases hb
 injection hv with h1
 rw[h1] at hb;injection hb with hb
 change g'=b at hb
 subst hb;exact ⟨h1,hg,(Array.getElem?_eq_some_iff.1 hh).1⟩
theorem ownG_ne {w:World} {b1 b2 s1 s2 n1 n2 c1 c2:Nat} {e1 e2:TypeId} {A1 A2:Option Addr} {v1 v2:List Value} (h1:Own w b1 e1 s1 A1 n1 c1 v1) (h2:Own w b2 e2 s2 A2 n2 c2 v2) (hne:e1≠e2) (b:Nat) (e:A1.map (·.block)=some b):A2.map (·.block)≠some b:=by
 intro e';rcases h1.2 with ⟨hv,_⟩|⟨g,cap,cur,hv,_,hh,_⟩
 ·injection hv with h;rw[h] at e;cases e
 rcases h2.2 with ⟨hv',_⟩|⟨g',cap',cur',hv',_,hh',_⟩
 ·injection hv' with h;rw[h] at e';cases e'
 injection hv with h _ _
 injection hv' with h' _ _
 rw[h] at e;rw[h'] at e';injection e with e
 injection e' with e'
 dsimp only at e e';subst e e';rw[hh] at hh';injection hh' with hh'
 injection hh' with _ ht
 exact hne ht
structure LG where
 A:Option Addr
 n:Nat
 c:Nat
abbrev LG.val (p:LG):Value:=.slice p.A p.n p.c
def fillC (mk vs:List Value) (q:Nat):List Value:=mk.take q++vs.drop q
theorem fillC_all (mk vs:List Value) (h:mk.length=vs.length):fillC mk vs vs.length=mk:=by
 unfold fillC;rw[List.drop_length,List.append_nil, ←h,List.take_length]
theorem fillC_len (mk vs:List Value) (q:Nat) (h:mk.length=vs.length) (hq:q≤vs.length):(fillC mk vs q).length=vs.length:=by
 unfold fillC;rw[List.length_append,List.length_take,List.length_drop];omega
theorem fillC_set (mk vs:List Value) (q:Nat) (u:Value) (h:mk.length=vs.length) (hu:mk[q]?=some u):(fillC mk vs q).set q u=fillC mk vs (q+1):=by
 have hq:q<mk.length:=(List.getElem?_eq_some_iff.1 hu).1;unfold fillC
 rw[List.set_append_right _ _ (by rw[List.length_take];omega),List.length_take,Nat.min_eq_left (by omega),Nat.sub_self,List.drop_eq_getElem_cons (by omega:q<vs.length),List.set_cons_zero,
  List.take_add_one,hu,List.append_assoc]
 rfl
structure FullG (w:World) (base:Nat) (e:TypeId) (sz:Nat) (ps:List LG) (mk vs:Nat→List Value) (k q:Nat):Prop where
 own:∀t p,ps[t]?=some p→Own w base e sz p.A p.n p.c (if t<k then mk t else if t=k then fillC (mk t) (vs t) q else vs t)
theorem FullG.put {w:World} {base:Nat} {e:TypeId} {sz:Nat} {ps:List LG} {mk vs:Nat→List Value} {k q:Nat} (h:FullG w base e sz ps mk vs k q)
  (hsole:∀(i j:Nat) (p r:LG),i≠j→ps[i]?=some p→ps[j]?=some r→∀b,p.A.map (·.block)=some b→r.A.map (·.block)≠some b)
  {p:LG} (hp:ps[k]?=some p) (g:Nat) (hA:p.A=some ⟨g,0,none⟩) (hlen:(mk k).length=(vs k).length) (u:Value) (hu:(mk k)[q]?=some u):
  FullG (w.setCell ⟨g,q,none⟩ u) base e sz ps mk vs k (q+1):=by
 refine ⟨fun t r hr=>?_⟩
 by_cases ht:t=k
 ·subst ht;rw[hp] at hr;injection hr with hr
  subst hr;have h1:=h.own t p hp;rw[if_neg (Nat.lt_irrefl _),if_pos rfl] at h1 ⊢;rw[hA] at h1 ⊢;rw[←fillC_set _ _ _ u hlen hu];exact ownG_set h1 q u
 ·have h1:=h.own t r hr;have e1:(if t<k then mk t else if t=k then fillC (mk t) (vs t) (q+1) else vs t)=(if t<k then mk t else if t=k then fillC (mk t) (vs t) q else vs t):=by rw[if_neg ht,if_neg ht]
  rw[e1];refine Own.only h1 ((Only.refl (fun b=>b=g) w).setCell (p:=⟨g,q,none⟩) (.inl rfl) u) fun b o e2 e3=>?_;exact hsole t k r p ht hr hp b (by rw[e2];rfl) (by rw[hA,e3];rfl)
theorem FullG.next {w:World} {base:Nat} {e:TypeId} {sz:Nat} {ps:List LG} {mk vs:Nat→List Value} {k:Nat} (h:FullG w base e sz ps mk vs k (vs k).length) (hlen:(mk k).length=(vs k).length):FullG w base e sz ps mk vs (k+1) 0:=by
 refine ⟨fun t r hr=>?_⟩;have h1:=h.own t r hr;rcases Nat.lt_trichotomy t k with ht|rfl|ht
 ·rw[if_pos ht] at h1;rw[if_pos (by omega)]
  exact h1
 ·rw[if_neg (Nat.lt_irrefl _),if_pos rfl,fillC_all _ _ hlen] at h1;rw[if_pos (by omega)]
  exact h1
 rw[if_neg (by omega),if_neg (by omega)] at h1
 rw[if_neg (by omega)]
 by_cases h2:t=k+1
 ·rw[if_pos h2];exact h1
 rw[if_neg h2];exact h1
theorem FullG.only {S:Nat→Prop} {w w':World} {base:Nat} {e:TypeId} {sz:Nat} {ps:List LG} {mk vs:Nat→List Value} {k q:Nat} (h:FullG w base e sz ps mk vs k q) (ho:Only S w w') (hS:∀p∈ps,∀b,p.A.map (·.block)=some b→¬ S b):FullG w' base e sz ps mk vs k q:=
 ⟨fun t p hp=>Own.only (h.own t p hp) ho fun b o e2=>hS p (List.mem_of_getElem? hp) b (by rw[e2];rfl)⟩
structure MoreG (w0 wr:World) (B base:Nat) (e rowT:TypeId) (sz:Nat) (ps:List LG) (mk:Nat→List Value) (tl:Nat→Nat→List Value) (m:Nat→Nat) (GA:Nat→Option Addr) (GC:Nat→Nat) (AM:Option Addr) (cM:Nat):Prop where
 row:Own wr 0 rowT 1 AM ps.length cM ((List.range ps.length).map fun t=> .slice (GA t) ((ps.map LG.n).getD t 0+m t) (GC t))
 done:∀t p,ps[t]?=some p→Own wr base e sz (GA t) (p.n+m t) (GC t) (mk t++tl t (m t))∧RV wr p.A (mk t)∧∀b,(GA t).map (·.block)=some b→p.A.map (·.block)=some b∨B≤b
 sole:∀t t',t≠t'→t<ps.length→t'<ps.length→∀b,(GA t).map (·.block)=some b→(GA t').map (·.block)≠some b
 only:Only (fun b=>AM.map (·.block)=some b∨∃p∈ps,p.A.map (·.block)=some b) w0 wr
 size:B≤wr.heap.size
theorem MoreG.step {w0 wr wx w3 w4:World} {B base:Nat} {e rowT:TypeId} {sz:Nat} {ps:List LG} {mk:Nat→List Value} {tl:Nat→Nat→List Value} {m:Nat→Nat} {GA:Nat→Option Addr} {GC:Nat→Nat} {gM cM i:Nat} {us:List Value} {p:LG} {A2:Option Addr} {c2:Nat}
  (h:MoreG w0 wr B base e rowT sz ps mk tl m GA GC (some ⟨gM,0,none⟩) cM) (hp:ps[i]?=some p) (hne:rowT≠e)
  (hlt:∀p∈ps,∀b,p.A.map (·.block)=some b→b<B∧b≠gM) (hw0:w0.heap.size≤B)
  (hform:∀p∈ps,∀b,p.A.map (·.block)=some b→p.A=some ⟨b,0,none⟩)
  (hsole:∀(i j:Nat) (p r:LG),i≠j→ps[i]?=some p→ps[j]?=some r→∀b,p.A.map (·.block)=some b→r.A.map (·.block)≠some b)
  (htl:tl i (m i)++us=tl i (m i+1)) (hb:Below wr.heap.size wr wx)
  (hown:Own w3 base e sz A2 (p.n+m i+1) c2 ((mk i++tl i (m i))++us))
  (hA:(A2=GA i∧GA i≠none∧wx.grownBy w3 ((GA i).map (·.block)))∨((∀b o,A2=some ⟨b,o,none⟩→wx.heap.size≤b)∧wx.grownBy w3 none))
  (hw4:w4=w3.setCell ⟨gM,i,none⟩ (.slice A2 (p.n+m i+1) c2)):
  MoreG w0 w4 B base e rowT sz ps mk tl (fun t=>if t=i then m t+1 else m t) (fun t=>if t=i then A2 else GA t) (fun t=>if t=i then c2 else GC t) (some ⟨gM,0,none⟩) cM:=by
 have hpm:=List.mem_of_getElem? hp
 have hil:i<ps.length:=(List.getElem?_eq_some_iff.1 hp).1
 obtain ⟨hoi,hri,hfi⟩:=h.done i p hp
 have hzx:=hb.size
 have hO3:Only (fun b=>(GA i).map (·.block)=some b∧A2=GA i) wx w3:=by
  rcases hA with ⟨h1,-,h3⟩|⟨-,h3⟩
  ·exact Only.of_grown h3 fun k hk=>⟨hk,h1⟩
  exact Only.of_grown h3 fun k hk=>by cases hk
 have hz3:=hO3.size
 have hO4:Only (fun b=>b=gM) w3 w4:=by rw[hw4];exact (Only.refl (fun b=>b=gM) w3).setCell (p:=⟨gM,i,none⟩) (.inl rfl) _
 have hz4:=hO4.size
 have hrowx:=Own.below h.row hb (Nat.le_refl _)
 have hgM:∀b,(GA i).map (·.block)=some b→b≠gM:=fun b e1 e2=>ownG_ne h.row hoi hne gM rfl (by rw[←e2];exact e1)
 have hrow3:=Own.only hrowx hO3 fun b o e1 e2=>by
  injection e1 with e1
  injection e1 with e1
  exact hgM b e2.1 e1.symm
 have hoth:∀t r,t≠i→ps[t]?=some r→Own w4 base e sz (GA t) (r.n+m t) (GC t) (mk t++tl t (m t)):=fun t r ht hr=>by
  obtain ⟨ho,-,hf⟩:=h.done t r hr;have htl':t<ps.length:=(List.getElem?_eq_some_iff.1 hr).1;have h3:=Own.only (Own.below ho hb (Nat.le_refl _)) hO3 fun b o e1 e2=>h.sole t i ht htl' hil b (by rw[e1];rfl) e2.1
  exact Own.only h3 hO4 fun b o e1 e2=>ownG_ne h.row ho hne gM rfl (by rw[e1, ←e2];rfl)
 have hnew:Own w4 base e sz A2 (p.n+(m i+1)) c2 (mk i++tl i (m i+1)):=by
  rw[←htl, ←List.append_assoc, ←Nat.add_assoc];exact Own.only hown hO4 fun b o e1 e2=>ownG_ne hrow3 hown hne gM rfl (by rw[e1, ←e2];rfl)
 have hA2b:∀b,A2.map (·.block)=some b→(A2=GA i∧(GA i).map (·.block)=some b)∨wx.heap.size≤b:=fun b e1=>by
  rcases hA with ⟨h1,-,-⟩|⟨h1,-⟩
  ·exact .inl ⟨h1,by rw[←h1];exact e1⟩
  have hf:=(ownG_form hown b e1).1;exact .inr (h1 b 0 hf)
 have hrv:∀t r,ps[t]?=some r→RV w4 r.A (mk t):=fun t r hr=>by
  obtain ⟨ho,hrr,hf⟩:=h.done t r hr;have hrm:=List.mem_of_getElem? hr;by_cases hin:A2=GA i∧t=i∧∃b,r.A.map (·.block)=some b∧(GA i).map (·.block)=some b
  ·obtain ⟨h1,rfl,b,h2,h3⟩:=hin;rw[hp] at hr;injection hr with hr
   subst hr;have hf1:=hform p hpm b h2;have hf2:=(ownG_form ho b h3).1;have h4:=RV.of_own hnew;rw[h1,hf2] at h4;have h5:=h4.cut 0 (mk t).length;rw[List.drop_zero,List.take_append_of_le_length (Nat.le_refl _),List.take_length] at h5;rw[hf1];exact h5
  have h3:=(hrr.below hb).only hO3 fun _ b o e1 e2=>by
   refine hin ⟨e2.2,?_,b,by rw[e1];rfl,e2.1⟩
   by_cases hti:t=i
   ·exact hti
   exfalso
   rcases hfi b e2.1 with h4|h4
   ·exact hsole t i r p hti hr hp b (by rw[e1];rfl) h4
   have:=hlt r hrm b (by rw[e1];rfl)
   omega
  exact h3.only hO4 fun hv b o e1 e2=>(hlt r hrm b (by rw[e1];rfl)).2 e2
 have hN:∀t,(fun t=>if t=i then m t+1 else m t) t=if t=i then m t+1 else m t:=fun _=>rfl
 refine ⟨?_,fun t r hr=>?_,fun t t' htt ht ht' b e1 e2=>?_,?_,by have:=h.size;omega⟩
 ·have h1:=ownG_set hrow3 i (.slice A2 (p.n+m i+1) c2);rw[←hw4] at h1
  have e1:((List.range ps.length).map fun t=>Value.slice (GA t) ((ps.map LG.n).getD t 0+m t) (GC t)).set i (.slice A2 (p.n+m i+1) c2)=
    (List.range ps.length).map fun t=>Value.slice (if t=i then A2 else GA t) ((ps.map LG.n).getD t 0+(if t=i then m t+1 else m t)) (if t=i then c2 else GC t):=by
   apply List.ext_getElem?
   intro j
   by_cases hj:j=i
   ·subst hj;rw[List.getElem?_set_self (by simpa using hil),List.getElem?_map,List.getElem?_range hil]
    simp only[Option.map_some,if_pos];have:(ps.map LG.n).getD j 0=p.n:=by simp[hp]
    rw[this,Nat.add_assoc]
   ·rw[List.getElem?_set_ne (fun h=>hj h.symm),List.getElem?_map,List.getElem?_map];cases hjr:(List.range ps.length)[j]? with
    |none=>rfl
    |some x=>
     have hx:x=j:=by
      have:=(List.getElem?_eq_some_iff.1 hjr).2;rw[List.getElem_range] at this;exact this.symm
     subst hx;simp only[Option.map_some,if_neg hj]
  rw[e1] at h1;exact h1
 ·by_cases ht:t=i
  ·subst ht;rw[hp] at hr;injection hr with hr
   subst hr;rw[if_pos rfl,if_pos rfl,if_pos rfl];refine ⟨hnew,hrv t p hp,fun b e1=>?_⟩;rcases hA2b b e1 with ⟨-,h2⟩|h2
   ·exact hfi b h2
   have:=h.size;exact .inr (by omega)
  rw[if_neg ht,if_neg ht,if_neg ht];exact ⟨hoth t r ht hr,hrv t r hr,(h.done t r hr).2.2⟩
 ·have hlt2:∀t,t<ps.length→∀b,(GA t).map (·.block)=some b→b<wr.heap.size:=fun t ht b e=>by
   obtain ⟨ho,-,-⟩:=h.done t ps[t] (List.getElem?_eq_getElem ht);exact (Own.row ho b e).2
  by_cases h1:t=i
  ·rw[if_pos h1] at e1;rw[if_neg (by omega)] at e2
   rcases hA2b b e1 with ⟨-,h2⟩|h2
   ·exact h.sole t t' htt ht ht' b (by rw[h1];exact h2) e2
   have:=hlt2 t' ht' b e2;omega
  rw[if_neg h1] at e1;by_cases h3:t'=i
  ·rw[if_pos h3] at e2;rcases hA2b b e2 with ⟨-,h2⟩|h2
   ·exact h.sole t t' htt ht ht' b e1 (by rw[h3];exact h2)
   have:=hlt2 t ht b e1;omega
  rw[if_neg h3] at e2;exact h.sole t t' htt ht ht' b e1 e2
 ·have h1:=(h.only.trans (Only.of_fresh hb)).more hO3 fun b hbl e=>by
   rcases hfi b e.1 with h2|h2
   ·exact .inr ⟨p,hpm,h2⟩
   omega
  exact h1.trans (hO4.mono fun b _ e=> .inl (by rw[e];rfl))
theorem MoreG.start {w:World} {base b:Nat} {e rowT:TypeId} {sz cM:Nat} {ps:List LG} {mk:Nat→List Value} {tl:Nat→Nat→List Value} {AM:Option Addr} (hown:∀t p,ps[t]?=some p→Own w base e sz p.A p.n p.c (mk t))
  (hsole:∀(i j:Nat) (p r:LG),i≠j→ps[i]?=some p→ps[j]?=some r→∀b,p.A.map (·.block)=some b→r.A.map (·.block)≠some b)
  (hrow:Own w b rowT 1 AM ps.length cM (ps.map LG.val)) (htl:∀t,tl t 0=[]):
  MoreG w w w.heap.size base e rowT sz ps mk tl (fun _=>0) (fun t=>(ps.map LG.A).getD t none) (fun t=>(ps.map LG.c).getD t 0) AM cM:=by
 have hg:∀t p,ps[t]?=some p→(ps.map LG.A).getD t none=p.A∧(ps.map LG.c).getD t 0=p.c∧(ps.map LG.n).getD t 0=p.n:=fun t p h=>by simp[h]
 refine ⟨?_,fun t p hp=>?_,fun t t' htt ht ht' b e1 e2=>?_,Only.refl _ _,Nat.le_refl _⟩
 ·have e:((List.range ps.length).map fun t=>Value.slice ((ps.map LG.A).getD t none) ((ps.map LG.n).getD t 0+0) ((ps.map LG.c).getD t 0))=ps.map LG.val:=by
   apply List.ext_getElem?;intro j;by_cases hj:j<ps.length
   ·have hp:ps[j]?=some ps[j]:=List.getElem?_eq_getElem hj;obtain ⟨h1,h2,h3⟩:=hg j _ hp;rw[List.getElem?_map,List.getElem?_range hj,List.getElem?_map,hp];simp only[Option.map_some,h1,h2,h3,Nat.add_zero]
   rw[List.getElem?_eq_none (by simpa using hj),List.getElem?_eq_none (by simpa using hj)]
  rw[e];exact hrow.mono (Nat.zero_le _)
 ·obtain ⟨h1,h2,-⟩:=hg t p hp;have ho:=hown t p hp;rw[h1,h2,htl,List.append_nil,Nat.add_zero];exact ⟨ho,RV.of_own ho,fun b e=> .inl e⟩
 ·obtain ⟨h1,-,-⟩:=hg t ps[t] (List.getElem?_eq_getElem ht);obtain ⟨h2,-,-⟩:=hg t' ps[t'] (List.getElem?_eq_getElem ht');rw[h1] at e1;rw[h2] at e2;exact hsole t t' _ _ htt (List.getElem?_eq_getElem ht) (List.getElem?_eq_getElem ht') b e1 e2
theorem MoreG.congr {w0 wr:World} {B base:Nat} {e rowT:TypeId} {sz:Nat} {ps:List LG} {mk:Nat→List Value} {tl:Nat→Nat→List Value} {m m':Nat→Nat} {GA:Nat→Option Addr} {GC:Nat→Nat} {AM:Option Addr} {cM:Nat}
  (h:MoreG w0 wr B base e rowT sz ps mk tl m GA GC AM cM) (hm:∀t,t<ps.length→m t=m' t):MoreG w0 wr B base e rowT sz ps mk tl m' GA GC AM cM:=by
 refine ⟨?_,fun t p hp=>?_,h.sole,h.only,h.size⟩
 ·have e:((List.range ps.length).map fun t=>Value.slice (GA t) ((ps.map LG.n).getD t 0+m' t) (GC t))=(List.range ps.length).map fun t=>Value.slice (GA t) ((ps.map LG.n).getD t 0+m t) (GC t):=
   List.map_congr_left fun j hj=>by rw[hm j (List.mem_range.1 hj)]
  rw[e];exact h.row
 ·rw[←hm t (List.getElem?_eq_some_iff.1 hp).1];exact h.done t p hp
def nOf (ps:List LG) (t:Nat):Nat:=(ps.map LG.n).getD t 0
theorem nOf_eq {ps:List LG} {t:Nat} {p:LG} (h:ps[t]?=some p):nOf ps t=p.n:=by unfold nOf;simp[h]
theorem vals_get {ps:List LG} {t:Nat} {p:LG} (h:ps[t]?=some p):(ps.map LG.val)[t]?=some p.val:=by rw[List.getElem?_map,h];rfl
end
end Go.Proofs.Ytcmpmhlcfalbhaa
