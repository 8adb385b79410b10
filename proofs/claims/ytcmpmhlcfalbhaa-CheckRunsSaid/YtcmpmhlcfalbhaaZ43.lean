import Derived.Test.YtcmpmhlcfalbhaaZ09
import Derived.Test.YtcmpmhlcfalbhaaZ13
import Derived.Test.YtcmpmhlcfalbhaaZ06
import Derived.Test.YtcmpmhlcfalbhaaZ01
import Derived.Laws.CopyRow
import Derived.Test.YtcmpmhlcfalbhaaZ07
import Derived.Deep.QuietTactic
import Derived.BigQuiet
import Derived.Test.YtcmpmhlcfalbhaaZ04
import Derived.Test.YtcmpmhlcfalbhaaZ05
namespace Go.Proofs.Ytcmpmhlcfalbhaa
section
open Go.RowKit
def ApartF (fs:List FunM):Prop:=∀(i j:Nat) (f g:FunM),fs[i]?=some f→fs[j]?=some g→i≠j→∀b,f.A.map (·.block)=some b→g.A.map (·.block)≠some b
theorem ApartF.nil:ApartF []:=fun i j f g h=>by cases h
theorem ApartF.push {fs:List FunM} {x:FunM} (n:Nat) (h:ApartF fs) (hlt:∀f∈fs,∀b,f.A.map (·.block)=some b→b<n) (hx:∀b,x.A.map (·.block)=some b→n≤b):ApartF (fs++[x]):=by
 intro i j f g hi hj hij b hb1 hb2
 have key:∀(k:Nat) (y:FunM),(fs++[x])[k]?=some y→fs[k]?=some y∨(k=fs.length∧y=x):=by
  intro k y hk;by_cases h1:k<fs.length
  ·rw[List.getElem?_append_left h1] at hk;exact .inl hk
  rw[List.getElem?_append_right (by omega)] at hk
  obtain h2|h2:k-fs.length=0∨0<k-fs.length:=by omega
  ·rw[h2] at hk;injection hk with hk
   exact .inr ⟨by omega,hk.symm⟩
  rw[List.getElem?_eq_none (by rw[List.length_singleton];exact h2)] at hk
  cases hk
 rcases key i f hi with h1|⟨h1,rfl⟩
 ·rcases key j g hj with h2|⟨h2,rfl⟩
  ·exact h i j f g h1 h2 hij b hb1 hb2
  have:=hlt f (List.mem_of_getElem? h1) b hb1;have:=hx b hb2;omega
 rcases key j g hj with h2|⟨h2,rfl⟩
 ·have:=hlt g (List.mem_of_getElem? h2) b hb2;have:=hx b hb1;omega
 omega
structure PrgOwn (w:World) (base:Nat) (p:PrgM):Prop where
 data:OwnB w base p.AD p.data.length p.cD p.data
 funs:Own w base 43 4 p.AF p.fs.length p.cF (p.fs.flatMap funCells)
 code:∀f∈p.fs,Own w base 45 2 f.A f.code.length f.c (f.code.flatMap insCells)
 ok:∀f∈p.fs,(∀i∈f.code,InsOk i)∧f.code.length≤4096∧0≤f.args∧f.args≤9223372036854775807∧0≤f.locals∧f.locals≤9223372036854775807∧0≤f.results∧f.results≤9223372036854775807
 m1:0≤p.mem
 m2:p.mem≤9223372036854775807
 dlen:p.data.length≤140737488351232
 flen:p.fs.length≤64
 apart:ApartF p.fs
theorem PrgOwn.only {S:Nat→Prop} {w w':World} {base:Nat} {p:PrgM} (h:PrgOwn w base p) (ho:Only S w w') (hS:∀b,base≤b→b<w.heap.size→¬ S b):PrgOwn w' base p:=
 ⟨Own.only h.data ho fun b o e=>hS b (Own.lt h.data b o e).1 (Own.lt h.data b o e).2.1,Own.only h.funs ho fun b o e=>hS b (Own.lt h.funs b o e).1 (Own.lt h.funs b o e).2.1,
  fun f hf=>Own.only (h.code f hf) ho fun b o e=>hS b (Own.lt (h.code f hf) b o e).1 (Own.lt (h.code f hf) b o e).2.1,h.ok,h.m1,h.m2,h.dlen,h.flen,h.apart⟩
theorem PrgOwn.below {w w':World} {base:Nat} {p:PrgM} (h:PrgOwn w base p) (hb:Below w.heap.size w w'):PrgOwn w' base p:=h.only (S:=fun _=>False) (Only.of_fresh hb) fun _ _ _ h=>h
theorem PrgOwn.mono {w:World} {base base':Nat} {p:PrgM} (h:PrgOwn w base p) (hb:base'≤base):PrgOwn w base' p:=
 ⟨h.data.mono hb,h.funs.mono hb,fun f hf=>(h.code f hf).mono hb,h.ok,h.m1,h.m2,h.dlen,h.flen,h.apart⟩
theorem own_nil {w:World} {base size n c:Nat} {e:TypeId} {A:Option Addr} {vs:List Value} (h:Own w base e size A n c vs) (hA:A=none):n=0∧c=0:=by
 rcases h.2 with ⟨hv,hn⟩|⟨g,cap,cur,hv,_⟩
 ·injection hv with _ h2 h3
  exact ⟨h2,h3⟩
 injection hv with h1;rw[hA] at h1;cases h1
theorem PrgOwn.at_ {w:World} {base:Nat} {p:PrgM} (h:PrgOwn w base p):PrgAt w p:=
 ⟨Sl.of_own h.data,h.dlen,RV.of_own h.funs,fun e=>own_nil h.funs e,by have:=h.flen;omega,fun f hf=>by
  obtain ⟨h1,h2,h3,h4,h5,h6,h7,h8⟩:=h.ok f hf;exact ⟨RV.of_own (h.code f hf),h1,fun e=>own_nil (h.code f hf) e,by omega,by omega,h4,by omega,h6,by omega,h8⟩,by have:=h.m1;omega,h.m2⟩
end
section
section
open Go.RowKit
section
variable {P:Program}
end
end
section
open Go.RowKit
theorem insCells_set:∀(ls:List Ins) (i:Nat) (x:Ins),i<ls.length→((ls.flatMap insCells).set (i*2) (.int .i64 x.op)).set (i*2+1) (.int .i64 x.a)=(ls.set i x).flatMap insCells:=by
 intro ls;induction ls with
 |nil=>intro i x h;cases h
 |cons y ls ih=>
  intro i x h;cases i with
  |zero=>rfl
  |succ i=>
   rw[List.set_cons_succ,List.flatMap_cons,List.flatMap_cons, ←ih i x (by simpa using h),show (i+1)*2=i*2+2 from by omega]
   rfl
abbrev BlkI (w:World) (g:Nat) (ls:List Ins):Prop:=Blk w g 45 (ls.flatMap insCells).toArray
theorem BlkI.put {w:World} {g:Nat} {ls:List Ins} (h:BlkI w g ls) (i:Nat) (hi:i<ls.length) (x:Ins):BlkI ((w.setCell ⟨g,i*2,none⟩ (.int .i64 x.op)).setCell ⟨g,i*2+1,none⟩ (.int .i64 x.a)) g (ls.set i x):=by
 have h1:=(Blk.setL h (i*2) (.int .i64 x.op)).setL (i*2+1) (.int .i64 x.a);rwa [insCells_set ls i x hi] at h1
theorem BlkI.at_ {w:World} {g:Nat} {ls:List Ins} (h:BlkI w g ls) (i:Nat) (hi:i<ls.length):w.cell? ⟨g,i*2,none⟩=some (.int .i64 (ls[i]).op)∧w.cell? ⟨g,i*2+1,none⟩=some (.int .i64 (ls[i]).a):=by
 have h0:=insCells_get ls i 0 hi (by omega)
 have h1:=insCells_get ls i 1 hi (by omega)
 exact ⟨by rw[Blk.at_ h];exact h0,by rw[Blk.at_ h];exact h1⟩
theorem BlkI.rv {w:World} {g:Nat} {ls:List Ins} (h:BlkI w g ls) (n:Nat) (hn:n≤ls.length):RV w (some ⟨g,0,none⟩) ((ls.take n).flatMap insCells):=by
 have h1:RV w (some ⟨g,0,none⟩) (ls.flatMap insCells):=by simpa using RV.of_blk h
 have h2:=h1.cut 0 (n*2);rw[Nat.add_zero,List.drop_zero] at h2
 have e:(ls.flatMap insCells).take (n*2)=(ls.take n).flatMap insCells:=by
  conv=>lhs;rw[←List.take_append_drop n ls,List.flatMap_append]
  rw[List.take_append_of_le_length (by rw[insCells_len,List.length_take];omega),List.take_of_length_le (by rw[insCells_len,List.length_take];omega)]
 rwa [e] at h2
def sameB:List Ins→List Ins→Bool
 |[],[]=>true
 |x::xs,y::ys=>(x.op==y.op&&x.a==y.a)&&sameB xs ys
 |_,_=>false
theorem sameB_iff:∀xs ys:List Ins,sameB xs ys=true↔xs=ys:=by
 intro xs;induction xs with
 |nil=>intro ys;cases ys<;>simp[sameB]
 |cons x xs ih=>
  intro ys;cases ys with
  |nil=>simp[sameB]
  |cons y ys=>
   obtain ⟨o1,a1⟩:=x;obtain ⟨o2,a2⟩:=y;simp only[sameB,Bool.and_eq_true,beq_iff_eq,ih,List.cons.injEq,Ins.mk.injEq]
theorem sameB_len:∀xs ys:List Ins,xs.length≠ys.length→sameB xs ys=false:=by
 intro xs ys h;cases hs:sameB xs ys with
 |false=>rfl
 |true=>exact absurd (congrArg List.length ((sameB_iff xs ys).1 hs)) h
end
section
open Go.RowKit
theorem wpList_bytesStrG {P:Program} {w:World} {ops:Array Oper} {rest:List Oper} {o:Oper} {a:Act} {Q:Exit→Act→World→Prop} (hw:Region.wanted o (yielded ops a.tmps)=true) (x:Operand) {src dst e:TypeId} {A:Option Addr} {c:Nat} {ys:List UInt8} (ho:o.op= .convert src dst x) (hx:a.eval x= .slice A ys.length c)
  (hr:RV w A (ys.map bv)) (hs:P.underlying src=some (.slice e)) (he:P.underlying e=some (.int .u8)) (hd:P.underlying dst=some .string)
  (h:wpList P ops Q rest (a.put o.dst (.string ⟨ys.toArray⟩)) w):wpList P ops Q (o::rest) a w:=by
 refine wpList_runG hw (.string ⟨ys.toArray⟩) ?_ h
 unfold execOp
 simp only[ho,hx,Sem.run_bind,run_bytesStr (P:=P) (c:=c) hr hs he hd,Result.andThen_ok,Sem.run_pure]
end
end
section
open Go.RowKit
theorem fun_info:(Try.prog.info? 43).map (fun i=>(i.zero,i.size,i.bytes))=some (some (.agg #[.int .i64 0,.int .i64 0,.int .i64 0,.slice none 0 0]),4,48):=by kernel_rfl
theorem eFun:Elem Try.prog 24 43 4 48:=elem_of Try.underlying24 fun_info rfl (by decide)
end
section
open Go.RowKit
def funB (f g:Fun):Bool:=(f.args==g.args&&f.locals==g.locals&&f.results==g.results)&&sameB f.code g.code
def sameFs:List Fun→List Fun→Bool
 |[],[]=>true
 |f::fs,g::gs=>funB f g&&sameFs fs gs
 |_,_=>false
def sameP (p q:Prg):Bool:=(p.mem==q.mem&&p.data==q.data)&&sameFs p.fs q.fs
theorem funB_iff (f g:Fun):funB f g=true↔f=g:=by
 obtain ⟨a,b,c,d⟩:=f;obtain ⟨a',b',c',d'⟩:=g;simp only[funB,Bool.and_eq_true,beq_iff_eq,sameB_iff,Fun.mk.injEq];constructor
 ·rintro ⟨⟨⟨h1,h2⟩,h3⟩,h4⟩;exact ⟨h1,h2,h3,h4⟩
 rintro ⟨h1,h2,h3,h4⟩;exact ⟨⟨⟨h1,h2⟩,h3⟩,h4⟩
theorem sameFs_iff:∀fs gs:List Fun,sameFs fs gs=true↔fs=gs:=by
 intro fs;induction fs with
 |nil=>intro gs;cases gs<;>simp[sameFs]
 |cons f fs ih=>
  intro gs;cases gs with
  |nil=>simp[sameFs]
  |cons g gs=>simp only[sameFs,Bool.and_eq_true,funB_iff,ih,List.cons.injEq]
theorem sameP_iff (p q:Prg):sameP p q=true↔p=q:=by
 obtain ⟨a,b,c⟩:=p;obtain ⟨a',b',c'⟩:=q;simp only[sameP,Bool.and_eq_true,beq_iff_eq,sameFs_iff,Prg.mk.injEq];constructor
 ·rintro ⟨⟨h1,h2⟩,h3⟩;exact ⟨h1,h2,h3⟩
 rintro ⟨h1,h2,h3⟩;exact ⟨⟨h1,h2⟩,h3⟩
theorem sameFs_len (fs gs:List Fun) (h:fs.length≠gs.length):sameFs fs gs=false:=by
 cases hs:sameFs fs gs with
 |false=>rfl
 |true=>exact absurd (congrArg List.length ((sameFs_iff fs gs).1 hs)) h
end
section
open Go.RowKit
def lentP (bs:List UInt8):List UInt8:=bs++List.replicate 5 0xC9
end
section
open Go.RowKit
abbrev markF:FunM:=⟨-9,0,0,none,0,[]⟩
abbrev BlkF (w:World) (g:Nat) (ls:List FunM):Prop:=Blk w g 43 (ls.flatMap funCells).toArray
theorem funCells_set:∀(ls:List FunM) (i:Nat) (x:FunM),i<ls.length→
  ((((ls.flatMap funCells).set (i*4) (.int .i64 x.args)).set (i*4+1) (.int .i64 x.locals)).set (i*4+2) (.int .i64 x.results)).set (i*4+3) (.slice x.A x.code.length x.c)=(ls.set i x).flatMap funCells:=by
 intro ls
 induction ls with
 |nil=>intro i x h;cases h
 |cons y ls ih=>
  intro i x h;cases i with
  |zero=>rfl
  |succ i=>
   rw[List.set_cons_succ,List.flatMap_cons,List.flatMap_cons, ←ih i x (by simpa using h),show (i+1)*4=i*4+4 from by omega]
   rfl
theorem funCells_set3:∀(ls:List FunM) (i:Nat) (x:FunM) (A:Option Addr) (c:Nat) (l:List Ins),ls[i]?=some x→
  (ls.flatMap funCells).set (i*4+3) (.slice A l.length c)=(ls.set i ⟨x.args,x.locals,x.results,A,c,l⟩).flatMap funCells:=by
 intro ls
 induction ls with
 |nil=>intro i x A c l h;cases h
 |cons y ls ih=>
  intro i x A c l h;cases i with
  |zero=>simp at h;subst h;rfl
  |succ i=>
   rw[List.set_cons_succ,List.flatMap_cons,List.flatMap_cons, ←ih i x A c l (by simpa using h),show (i+1)*4+3=(i*4+3)+4 from by omega]
   rfl
theorem BlkF.put {w:World} {g:Nat} {ls:List FunM} (h:BlkF w g ls) (i:Nat) (hi:i<ls.length) (x:FunM):
  BlkF ((((w.setCell ⟨g,i*4,none⟩ (.int .i64 x.args)).setCell ⟨g,i*4+1,none⟩ (.int .i64 x.locals)).setCell ⟨g,i*4+2,none⟩ (.int .i64 x.results)).setCell ⟨g,i*4+3,none⟩ (.slice x.A x.code.length x.c)) g (ls.set i x):=by
 have h1:=(((Blk.setL h (i*4) (.int .i64 x.args)).setL (i*4+1) (.int .i64 x.locals)).setL (i*4+2) (.int .i64 x.results)).setL (i*4+3) (.slice x.A x.code.length x.c)
 rwa [funCells_set ls i x hi] at h1
theorem BlkF.at_ {w:World} {g:Nat} {ls:List FunM} (h:BlkF w g ls) (i:Nat) (hi:i<ls.length):
  w.cell? ⟨g,i*4,none⟩=some (.int .i64 ls[i].args)∧w.cell? ⟨g,i*4+1,none⟩=some (.int .i64 ls[i].locals)∧w.cell? ⟨g,i*4+2,none⟩=some (.int .i64 ls[i].results)∧w.cell? ⟨g,i*4+3,none⟩=some (.slice ls[i].A ls[i].code.length ls[i].c):=by
 have h0:=funCells_get ls i 0 hi (by omega)
 have h1:=funCells_get ls i 1 hi (by omega)
 have h2:=funCells_get ls i 2 hi (by omega)
 have h3:=funCells_get ls i 3 hi (by omega)
 exact ⟨by rw[Blk.at_ h];exact h0,by rw[Blk.at_ h];exact h1,by rw[Blk.at_ h];exact h2,by rw[Blk.at_ h];exact h3⟩
theorem BlkF.rv {w:World} {g:Nat} {ls:List FunM} (h:BlkF w g ls) (n:Nat) (hn:n≤ls.length):RV w (some ⟨g,0,none⟩) ((ls.take n).flatMap funCells):=by
 have h1:RV w (some ⟨g,0,none⟩) (ls.flatMap funCells):=by simpa using RV.of_blk h
 have h2:=h1.cut 0 (n*4);rw[Nat.add_zero,List.drop_zero] at h2
 have e:(ls.flatMap funCells).take (n*4)=(ls.take n).flatMap funCells:=by
  conv=>lhs;rw[←List.take_append_drop n ls,List.flatMap_append]
  rw[List.take_append_of_le_length (by rw[funCells_len,List.length_take];omega),List.take_of_length_le (by rw[funCells_len,List.length_take];omega)]
 rwa [e] at h2
def lentC (l:List Ins) (k:Nat):List Ins:=l++(List.replicate k ⟨-9,0⟩++List.replicate (3-k) ⟨0,0⟩)
theorem length_lentC (l:List Ins) (k:Nat) (h:k≤3):(lentC l k).length=l.length+3:=by
 simp only[lentC,List.length_append,List.length_replicate];omega
theorem lentC_take (l:List Ins):(lentC l 3).take l.length=l:=by
 unfold lentC;rw[List.take_append_of_le_length (Nat.le_refl _),List.take_length]
def LentF (w:World) (base gf:Nat) (f g:FunM):Prop:=
 ∃b,g=⟨f.args,f.locals,f.results,some ⟨b,0,none⟩,f.code.length+3,f.code⟩∧BlkI w b (lentC f.code 3)∧base≤b∧b≠gf
def LentR (w:World) (base gf:Nat) (fs hs:List FunM):Prop:=∀(j:Nat) (g:FunM),hs[j]?=some g→∃f,fs[j]?=some f∧LentF w base gf f g
theorem LentR.keep {w w':World} {base gf:Nat} {fs hs:List FunM} (h:LentR w base gf fs hs) (S:Nat→Prop) (ho:Only S w w') (hS:∀b,base≤b→b<w.heap.size→S b→b=gf):LentR w' base gf fs hs:=by
 intro j g hj;obtain ⟨f,hf,b,e,hb,h1,h2⟩:=h j g hj;exact ⟨f,hf,b,e,hb.only ho (fun hs=>h2 (hS b h1 hb.lt hs)),h1,h2⟩
theorem LentR.mono {w:World} {base base' gf:Nat} {fs hs:List FunM} (h:LentR w base gf fs hs) (hb:base'≤base):LentR w base' gf fs hs:=by
 intro j g hj;obtain ⟨f,hf,b,e,hb',h1,h2⟩:=h j g hj;exact ⟨f,hf,b,e,hb',Nat.le_trans hb h1,h2⟩
theorem LentR.push {w:World} {base gf:Nat} {fs hs:List FunM} (h:LentR w base gf fs hs) {f g:FunM} (hf:fs[hs.length]?=some f) (hg:LentF w base gf f g):LentR w base gf fs (hs++[g]):=by
 intro j x hj;by_cases h1:j<hs.length
 ·rw[List.getElem?_append_left h1] at hj;exact h j x hj
 rw[List.getElem?_append_right (by omega)] at hj
 obtain h2|h2:j-hs.length=0∨0<j-hs.length:=by omega
 ·rw[h2] at hj;injection hj with hj
  subst hj;rw[show j=hs.length from by omega]
  exact ⟨f,hf,hg⟩
 rw[List.getElem?_eq_none (by rw[List.length_singleton];exact h2)] at hj
 cases hj
structure LentAt (w:World) (base:Nat) (p q:PrgM) (gd gf:Nat):Prop where
 mem:q.mem=p.mem
 data:q.data=p.data
 AD:q.AD=some ⟨gd,0,none⟩
 cD:q.cD=p.data.length+5
 bd:Blk w gd 5 ((lentP p.data).map bv).toArray
 AF:q.AF=some ⟨gf,0,none⟩
 cF:q.cF=p.fs.length+2
 flen:q.fs.length=p.fs.length
 bf:BlkF w gf (q.fs++[markF,markF])
 row:LentR w base gf p.fs q.fs
 b1:base≤gd
 b2:base≤gf
theorem LentAt.below {w w':World} {base gd gf:Nat} {p q:PrgM} (h:LentAt w base p q gd gf) (hb:Below w.heap.size w w'):LentAt w' base p q gd gf:=
 ⟨h.mem,h.data,h.AD,h.cD,h.bd.below hb h.bd.lt,h.AF,h.cF,h.flen,h.bf.below hb h.bf.lt,h.row.keep (fun _=>False) (Only.of_below hb fun _ hk _=>hk) (fun _ _ _ h=>h.elim),h.b1,h.b2⟩
theorem LentAt.same {w:World} {base gd gf:Nat} {p q:PrgM} (h:LentAt w base p q gd gf):q.plain=p.plain:=by
 have e:q.fs.map FunM.plain=p.fs.map FunM.plain:=by
  apply List.ext_getElem?;intro j;rw[List.getElem?_map,List.getElem?_map];cases hq:q.fs[j]? with
  |none=>
   have h1:q.fs.length≤j:=List.getElem?_eq_none_iff.1 hq;rw[List.getElem?_eq_none (by rw[←h.flen];exact h1)]
  |some g=>
   obtain ⟨f,hf,b,e,-⟩:=h.row j g hq;rw[hf,e];rfl
 unfold PrgM.plain;rw[h.mem,h.data,e]
theorem LentAt.at_ {w w0:World} {base gd gf:Nat} {p q:PrgM} (h:LentAt w base p q gd gf) (hp:PrgAt w0 p):PrgAt w q:=by
 have hd:RV w (some ⟨gd,0,none⟩) (p.data.map bv):=by
  have h1:=(RV.of_blk h.bd).cut 0 p.data.length;rw[List.drop_zero, ←List.map_take] at h1;unfold lentP at h1;rwa [List.take_append_of_le_length (Nat.le_refl _),List.take_length] at h1
 have hf:RV w (some ⟨gf,0,none⟩) (q.fs.flatMap funCells):=by
  have h1:=BlkF.rv h.bf q.fs.length (by simp)
  rwa [List.take_append_of_le_length (Nat.le_refl _),List.take_length] at h1
 refine ⟨⟨?_,?_⟩,?_,?_,?_,?_,?_,?_,?_⟩
 ·rw[h.AD,h.data];exact hd
 ·intro e;rw[h.AD] at e;cases e
 ·rw[h.data];exact hp.dlen
 ·rw[h.AF];exact hf
 ·intro e;rw[h.AF] at e;cases e
 ·rw[h.flen];exact hp.flen
 ·intro g hg;obtain ⟨j,hj,e⟩:=List.getElem_of_mem hg;obtain ⟨f,hf,b,rfl,hb,-⟩:=h.row j g (by rw[List.getElem?_eq_getElem hj,e])
  have hF:=hp.funs f (List.mem_of_getElem? hf);have hr:=BlkI.rv hb f.code.length (by rw[length_lentC _ _ (Nat.le_refl _)];omega)
  rw[lentC_take] at hr;exact ⟨hr,hF.ok,(fun e=>by cases e),hF.len,hF.a1,hF.a2,hF.l1,hF.l2,hF.r1,hF.r2⟩
 ·rw[h.mem];exact hp.m1
 rw[h.mem];exact hp.m2
end
section
open Go.RowKit
end
section
open Go.RowKit
structure MineR (w:World) (base:Nat) (hs:List FunM):Prop where
 code:∀f∈hs,Own w base 45 2 f.A f.code.length f.c (f.code.flatMap insCells)
 apart:∀(i j:Nat) (f g:FunM),hs[i]?=some f→hs[j]?=some g→i≠j→∀b,f.A.map (·.block)=some b→g.A.map (·.block)≠some b
theorem MineR.nil (w:World) (base:Nat):MineR w base []:=⟨(fun f h=>by cases h),(fun i j f g h=>by cases h)⟩
theorem MineR.only {S:Nat→Prop} {w w':World} {base:Nat} {hs:List FunM} (h:MineR w base hs) (ho:Only S w w') (hS:∀f∈hs,∀b,f.A.map (·.block)=some b→¬ S b):MineR w' base hs:=
 ⟨fun f hf=>Own.only (h.code f hf) ho fun b o e=>hS f hf b (by rw[e];rfl),h.apart⟩
theorem MineR.below {w w':World} {base:Nat} {hs:List FunM} (h:MineR w base hs) (hb:Below w.heap.size w w'):MineR w' base hs:=h.only (S:=fun _=>False) (Only.of_fresh hb) fun _ _ _ _ h=>h
theorem MineR.mono {w:World} {base base':Nat} {hs:List FunM} (h:MineR w base hs) (hb:base'≤base):MineR w base' hs:=⟨fun f hf=>(h.code f hf).mono hb,h.apart⟩
theorem MineR.push {w:World} {base base2:Nat} {hs:List FunM} (h:MineR w base hs) {x:FunM} (hx:Own w base2 45 2 x.A x.code.length x.c (x.code.flatMap insCells)) (hb:base≤base2) (hlt:∀f∈hs,∀b,f.A.map (·.block)=some b→b<base2):MineR w base (hs++[x]):=by
 have hxb:∀b,x.A.map (·.block)=some b→base2≤b:=fun b e=>(Own.row hx b e).1;refine ⟨fun f hf=>?_,fun i j f g hi hj hij b hb1 hb2=>?_⟩
 ·rw[List.mem_append,List.mem_singleton] at hf;rcases hf with hf|rfl
  ·exact h.code f hf
  exact hx.mono hb
 have key:∀(k:Nat) (y:FunM),(hs++[x])[k]?=some y→hs[k]?=some y∨(k=hs.length∧y=x):=by
  intro k y hk;by_cases h1:k<hs.length
  ·rw[List.getElem?_append_left h1] at hk;exact .inl hk
  rw[List.getElem?_append_right (by omega)] at hk
  obtain h2|h2:k-hs.length=0∨0<k-hs.length:=by omega
  ·rw[h2] at hk;injection hk with hk
   exact .inr ⟨by omega,hk.symm⟩
  rw[List.getElem?_eq_none (by rw[List.length_singleton];exact h2)] at hk
  cases hk
 rcases key i f hi with h1|⟨h1,rfl⟩
 ·rcases key j g hj with h2|⟨h2,rfl⟩
  ·exact h.apart i j f g h1 h2 hij b hb1 hb2
  have:=hlt f (List.mem_of_getElem? h1) b hb1;have:=hxb b hb2;omega
 rcases key j g hj with h2|⟨h2,rfl⟩
 ·have:=hlt g (List.mem_of_getElem? h2) b hb2;have:=hxb b hb1;omega
 omega
theorem MineR.lt {w:World} {base:Nat} {hs:List FunM} (h:MineR w base hs):∀f∈hs,∀b,f.A.map (·.block)=some b→base≤b∧b<w.heap.size:=fun f hf b e=>Own.row (h.code f hf) b e
structure PrgMine (w:World) (base:Nat) (q:PrgM):Prop where
 data:OwnB w base q.AD q.data.length q.cD q.data
 funs:Own w base 43 4 q.AF q.fs.length q.cF (q.fs.flatMap funCells)
 row:MineR w base q.fs
theorem PrgMine.only {S:Nat→Prop} {w w':World} {base:Nat} {q:PrgM} (h:PrgMine w base q) (ho:Only S w w') (hS:∀b,base≤b→b<w.heap.size→¬ S b):PrgMine w' base q:=
 ⟨Own.only h.data ho fun b o e=>hS b (Own.lt h.data b o e).1 (Own.lt h.data b o e).2.1,Own.only h.funs ho fun b o e=>hS b (Own.lt h.funs b o e).1 (Own.lt h.funs b o e).2.1,
  h.row.only ho fun f hf b e=>hS b (h.row.lt f hf b e).1 (h.row.lt f hf b e).2⟩
theorem PrgMine.below {w w':World} {base:Nat} {q:PrgM} (h:PrgMine w base q) (hb:Below w.heap.size w w'):PrgMine w' base q:=h.only (S:=fun _=>False) (Only.of_fresh hb) fun _ _ _ h=>h
theorem PrgMine.mono {w:World} {base base':Nat} {q:PrgM} (h:PrgMine w base q) (hb:base'≤base):PrgMine w base' q:=⟨h.data.mono hb,h.funs.mono hb,h.row.mono hb⟩
structure PrgOk (p:Prg):Prop where
 dlen:p.data.length≤140737488351232
 flen:p.fs.length≤2932031007402
 m1: -9223372036854775808≤p.mem
 m2:p.mem≤9223372036854775807
 fs:∀f∈p.fs,(∀i∈f.code,InsOk i)∧f.code.length≤8796093021952∧ -9223372036854775808≤f.args∧f.args≤9223372036854775807∧ -9223372036854775808≤f.locals∧f.locals≤9223372036854775807∧ -9223372036854775808≤f.results∧f.results≤9223372036854775807
theorem PrgAt.ok {w:World} {p:PrgM} (h:PrgAt w p):PrgOk p.plain:=by
 refine ⟨h.dlen,?_,h.m1,h.m2,fun f hf=>?_⟩
 ·show (p.fs.map FunM.plain).length≤_
  rw[List.length_map];exact h.flen
 obtain ⟨g,hg,rfl⟩:=List.mem_map.1 hf;have H:=h.funs g hg;exact ⟨H.ok,H.len,H.a1,H.a2,H.l1,H.l2,H.r1,H.r2⟩
theorem PrgMine.at_ {w:World} {base:Nat} {q:PrgM} (h:PrgMine w base q) (hp:PrgOk q.plain):PrgAt w q:=by
 have hfl:q.fs.length≤2932031007402:=by
  have h1:=hp.flen;change (q.fs.map FunM.plain).length≤_ at h1
  rwa [List.length_map] at h1
 refine ⟨Sl.of_own h.data,hp.dlen,RV.of_own h.funs,fun e=>own_nil h.funs e,hfl,fun f hf=>?_,hp.m1,hp.m2⟩;obtain ⟨h1,h2,h3,h4,h5,h6,h7,h8⟩:=hp.fs f.plain (List.mem_map.2 ⟨f,hf,rfl⟩);exact ⟨RV.of_own (h.row.code f hf),h1,fun e=>own_nil (h.row.code f hf) e,h2,h3,h4,h5,h6,h7,h8⟩
def TwinPost (w:World) (p:PrgM) (e:Ending) (w':World):Prop:=∃q,e= .returned q.val∧q.plain=p.plain∧PrgMine w' w.heap.size q∧Below w.heap.size w w'
end
end Go.Proofs.Ytcmpmhlcfalbhaa
